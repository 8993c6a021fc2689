/-
  Contracts: a player takes a step.
-/
import Derived.Test.YtfhnbdlkiemaeaaGg
set_option linter.unusedVariables false
set_option linter.unusedSimpArgs false
set_option maxRecDepth 100000
set_option maxHeartbeats 4000000
namespace Go.Proofs.Ytfhnbdlkiemaeaa
open Go Go.Sx

theorem close_play {d : Nat} {p : Int} {K : Cx → C → List Blk → Prop} {R : Rdr} {cx0 cx1 cx : Cx} {mem0 mem : List Blk} {bp : Nat} {s : PS} (hR : R.Is (factF cx0) mem0) (hty : R.ty = 88) (hle : Le cx0 cx1) (hle2 : Le cx1 cx) (hP : Pl (factF cx) R mem0 bp s p mem)
    (hp : 0 ≤ p ∧ p + 4000 ≤ 1125899906842624) (hl : s.xs.length ≤ 90000) (hb : 0 ≤ s.bits ∧ s.bits ≤ 16)
    (h : ∀ cx' s' p' mem', Le cx1 cx' → Pl (factF cx') R mem0 bp s' p' mem' → p ≤ p' → p' ≤ p + 4000 → s.xs.length ≤ s'.xs.length → s'.xs.length ≤ s.xs.length + 17 → s'.forks = s.forks → s'.bits = min s.bits 1 → K cx' (.v (.tuple #[])) mem') :
    GenV d closeC_S cx [.p mem0.length bp 0] mem K := by
  refine closeC_at ⟨hty, hR.on (hle.trans hle2).fact (Nat.le_refl _), hP, hp.1, hp.2, hl, hb.1, hb.2⟩ ?_
  rintro cx' c mem' ⟨rfl, h1, s', p', h2, h3, h4, h5, h6, h7, h8⟩
  exact h _ _ _ _ (hle2.trans h1) h2 h3 h4 h5 h6 h7 h8
theorem stepC_c (R : Rdr) (mem0 : List Blk) (bp : Nat) (s : PS) (p : Int) (cx : Cx) (mem : List Blk) (w : World) (hpre : R.ty = 88 ∧ R.Is (factF cx) mem0 ∧ Pl (factF cx) R mem0 bp s p mem ∧ 0 ≤ p ∧ p + 5000 ≤ 1125899906842624 ∧ s.xs.length ≤ 80000 ∧ 0 ≤ s.bits ∧ s.bits ≤ 16 ∧ 0 ≤ s.forks ∧ s.forks ≤ 8) (hm : MemRel cx mem w) :
    Calls Try.prog 90 (([.p mem0.length bp 0] : List C).map den).toArray w fun e w' => ∃ cx' c mem', e = .returned (den c) ∧ MemRel cx' mem' w' ∧ c = .v (.tuple #[]) ∧ Le cx cx' ∧ ∃ s' p', Pl (factF cx') R mem0 bp s' p' mem' ∧ p ≤ p' ∧ p' ≤ p + 5000 ∧ s.xs.length ≤ s'.xs.length ∧ s'.xs.length ≤ s.xs.length + 19 ∧ 0 ≤ s'.bits ∧ s'.bits ≤ 16 ∧ 0 ≤ s'.forks ∧ s'.forks ≤ 8 := by
  refine step_of_vcs ⟨[pickC, putC, closeC], []⟩ hmx Try.func90 rfl (by kernel_rfl) (args := [.p mem0.length bp 0]) (by simp [Try.ntmps90]) hm (fun cx' c mem' => c = .v (.tuple #[]) ∧ Le cx cx' ∧ ∃ s' p', Pl (factF cx') R mem0 bp s' p' mem' ∧ p ≤ p' ∧ p' ≤ p + 5000 ∧ s.xs.length ≤ s'.xs.length ∧ s'.xs.length ≤ s.xs.length + 19 ∧ 0 ≤ s'.bits ∧ s'.bits ≤ 16 ∧ 0 ≤ s'.forks ∧ s'.forks ≤ 8) 400 ?_
  obtain ⟨hty, hR, hP, hp, hpc, hl, hb0, hb1, hf0, hf1⟩ := hpre
  have hlt := hR.lt
  have hn := hP.lt
  obtain ⟨oc, hk⟩ := Play.blk hP
  have hk2 := (List.getElem?_eq_some_iff.1 hk).2
  cases hbase : s.base
  · simp (maxSteps := 4000000) -dsimp [-List.all_eq_true, -Array.all_eq_true, -Bool.exists_bool, -Bool.forall_bool, vcsE1, vcsE2, vcsE3, vcsE4, vcsE5, vcsE6, vcsE7, vcsE8, vcsE9, vcsE10, vcsE11, vcsE12, vcsE13, vcsE14, vcsE15, vcsE16, vcsE17, vcsE18, vcsE19, Sx.get, Sx.look, Sx.put, pureFn, findOrd, unF, dstOk, isFloatT, endVC, resFn, packC, newFn, storeFn, buildFn, undef, known, aggT, cellsC, Value.cells, findCon, Con.pure, Con.some, allV, partsV, partsC, fillL, Sx.exitTo, fAr, C.one, Value.oneCell', eqFn, eqFieldsFn, eqElemsFn, partFn, and_assoc, List.zipIdx, sliceFn, boundFn, AppV, CopyV, MakeSliceV, NewsV, GrowV, TextV, bytesL, notInt, typeAt, argAt, Con.read, Con.make, Con.ext, Con.rel, den, Con.extS, Con.draw, Con.step, Draws.steps, Try.f90, pickC, putC, closeC, hn, hk, hk2, hbase, Con.gen]
    refine pick_play hR hty (Le.refl _) hP (by omega) (by omega) ?_
    rintro cx3 v p3 mem3 hle3 hP3 c1 c2 ⟨y, rfl, y0, y1⟩
    have hn3 := hP3.lt
    obtain ⟨oc3, hk6⟩ := Play.blk hP3
    have hk7 := (List.getElem?_eq_some_iff.1 hk6).2
    obtain hy | hy | hy | hy | hy | hy | hy | hy | hy | hy | hy : y = 0 ∨ y = 1 ∨ y = 2 ∨ y = 3 ∨ y = 4 ∨ y = 5 ∨ y = 6 ∨ y = 7 ∨ y = 8 ∨ y = 9 ∨ y = 10 := by omega
    · by_cases hc : s.bits < 16
      · have hq := eq_true hc
        have hw := (wrap_i64 (x := s.bits + 1) (by omega) (by omega))
        simp (maxSteps := 4000000) -dsimp [-List.all_eq_true, -Array.all_eq_true, -Bool.exists_bool, -Bool.forall_bool, vcsE1, vcsE2, vcsE3, vcsE4, vcsE5, vcsE6, vcsE7, vcsE8, vcsE9, vcsE10, vcsE11, vcsE12, vcsE13, vcsE14, vcsE15, vcsE16, vcsE17, vcsE18, vcsE19, Sx.get, Sx.look, Sx.put, pureFn, findOrd, unF, dstOk, isFloatT, endVC, resFn, packC, newFn, storeFn, buildFn, undef, known, aggT, cellsC, Value.cells, findCon, Con.pure, Con.some, allV, partsV, partsC, fillL, Sx.exitTo, fAr, C.one, Value.oneCell', eqFn, eqFieldsFn, eqElemsFn, partFn, and_assoc, List.zipIdx, sliceFn, boundFn, AppV, CopyV, MakeSliceV, NewsV, GrowV, TextV, bytesL, notInt, typeAt, argAt, Con.read, Con.make, Con.ext, Con.rel, den, Con.extS, Con.draw, Con.step, Draws.steps, Try.f90, pickC, putC, closeC, hn3, hk6, hk7, hbase, hy, hq, hw, Con.gen]
        refine put_play hR hty (Le.refl _) hle3 hP3 (by omega) (by omega) ?_
        rintro cx4 x p4 mem4 hle4 hP4 - d1 d2
        have hn4 := hP4.lt
        obtain ⟨oc4, hk8⟩ := Play.blk hP4
        simp only at hk8
        have hk9 := (List.getElem?_eq_some_iff.1 hk8).2
        simp (maxSteps := 4000000) -dsimp [-List.all_eq_true, -Array.all_eq_true, -Bool.exists_bool, -Bool.forall_bool, vcsE1, vcsE2, vcsE3, vcsE4, vcsE5, vcsE6, vcsE7, vcsE8, vcsE9, vcsE10, vcsE11, vcsE12, vcsE13, vcsE14, vcsE15, vcsE16, vcsE17, vcsE18, vcsE19, Sx.get, Sx.look, Sx.put, pureFn, findOrd, unF, dstOk, isFloatT, endVC, resFn, packC, newFn, storeFn, buildFn, undef, known, aggT, cellsC, Value.cells, findCon, Con.pure, Con.some, allV, partsV, partsC, fillL, Sx.exitTo, fAr, C.one, Value.oneCell', eqFn, eqFieldsFn, eqElemsFn, partFn, and_assoc, List.zipIdx, sliceFn, boundFn, AppV, CopyV, MakeSliceV, NewsV, GrowV, TextV, bytesL, notInt, typeAt, argAt, Con.read, Con.make, Con.ext, Con.rel, den, Con.extS, Con.draw, Con.step, Draws.steps, Try.f90, pickC, putC, closeC, hn4, hk8, hk9, Con.gen, hw]
        exact EndK.all ⟨rfl, hle4, _, p4, (Play.upd' hP4 hk8 (s.bits + 1) s.forks _ _), by omega, by omega, by simp, by simp; try omega, by simp only; omega, by simp only; omega, by simp only; omega, by simp only; omega⟩
      · have hq := eq_false hc
        have hw := trivial
        simp (maxSteps := 4000000) -dsimp [-List.all_eq_true, -Array.all_eq_true, -Bool.exists_bool, -Bool.forall_bool, vcsE1, vcsE2, vcsE3, vcsE4, vcsE5, vcsE6, vcsE7, vcsE8, vcsE9, vcsE10, vcsE11, vcsE12, vcsE13, vcsE14, vcsE15, vcsE16, vcsE17, vcsE18, vcsE19, Sx.get, Sx.look, Sx.put, pureFn, findOrd, unF, dstOk, isFloatT, endVC, resFn, packC, newFn, storeFn, buildFn, undef, known, aggT, cellsC, Value.cells, findCon, Con.pure, Con.some, allV, partsV, partsC, fillL, Sx.exitTo, fAr, C.one, Value.oneCell', eqFn, eqFieldsFn, eqElemsFn, partFn, and_assoc, List.zipIdx, sliceFn, boundFn, AppV, CopyV, MakeSliceV, NewsV, GrowV, TextV, bytesL, notInt, typeAt, argAt, Con.read, Con.make, Con.ext, Con.rel, den, Con.extS, Con.draw, Con.step, Draws.steps, Try.f90, pickC, putC, closeC, hn3, hk6, hk7, hbase, hy, hq, hw, Con.gen]
        exact EndK.all ⟨rfl, hle3, s, p3, hP3, by omega, by omega, by omega, by omega, by omega, by omega, by omega, by omega⟩
    · by_cases hc : s.bits < 16
      · have hq := eq_true hc
        have hw := (wrap_i64 (x := s.bits + 1) (by omega) (by omega))
        simp (maxSteps := 4000000) -dsimp [-List.all_eq_true, -Array.all_eq_true, -Bool.exists_bool, -Bool.forall_bool, vcsE1, vcsE2, vcsE3, vcsE4, vcsE5, vcsE6, vcsE7, vcsE8, vcsE9, vcsE10, vcsE11, vcsE12, vcsE13, vcsE14, vcsE15, vcsE16, vcsE17, vcsE18, vcsE19, Sx.get, Sx.look, Sx.put, pureFn, findOrd, unF, dstOk, isFloatT, endVC, resFn, packC, newFn, storeFn, buildFn, undef, known, aggT, cellsC, Value.cells, findCon, Con.pure, Con.some, allV, partsV, partsC, fillL, Sx.exitTo, fAr, C.one, Value.oneCell', eqFn, eqFieldsFn, eqElemsFn, partFn, and_assoc, List.zipIdx, sliceFn, boundFn, AppV, CopyV, MakeSliceV, NewsV, GrowV, TextV, bytesL, notInt, typeAt, argAt, Con.read, Con.make, Con.ext, Con.rel, den, Con.extS, Con.draw, Con.step, Draws.steps, Try.f90, pickC, putC, closeC, hn3, hk6, hk7, hbase, hy, hq, hw, Con.gen]
        refine put_play hR hty (Le.refl _) hle3 hP3 (by omega) (by omega) ?_
        rintro cx4 x p4 mem4 hle4 hP4 - d1 d2
        have hn4 := hP4.lt
        obtain ⟨oc4, hk8⟩ := Play.blk hP4
        simp only at hk8
        have hk9 := (List.getElem?_eq_some_iff.1 hk8).2
        simp (maxSteps := 4000000) -dsimp [-List.all_eq_true, -Array.all_eq_true, -Bool.exists_bool, -Bool.forall_bool, vcsE1, vcsE2, vcsE3, vcsE4, vcsE5, vcsE6, vcsE7, vcsE8, vcsE9, vcsE10, vcsE11, vcsE12, vcsE13, vcsE14, vcsE15, vcsE16, vcsE17, vcsE18, vcsE19, Sx.get, Sx.look, Sx.put, pureFn, findOrd, unF, dstOk, isFloatT, endVC, resFn, packC, newFn, storeFn, buildFn, undef, known, aggT, cellsC, Value.cells, findCon, Con.pure, Con.some, allV, partsV, partsC, fillL, Sx.exitTo, fAr, C.one, Value.oneCell', eqFn, eqFieldsFn, eqElemsFn, partFn, and_assoc, List.zipIdx, sliceFn, boundFn, AppV, CopyV, MakeSliceV, NewsV, GrowV, TextV, bytesL, notInt, typeAt, argAt, Con.read, Con.make, Con.ext, Con.rel, den, Con.extS, Con.draw, Con.step, Draws.steps, Try.f90, pickC, putC, closeC, hn4, hk8, hk9, Con.gen, hw]
        exact EndK.all ⟨rfl, hle4, _, p4, (Play.upd' hP4 hk8 (s.bits + 1) s.forks _ _), by omega, by omega, by simp, by simp; try omega, by simp only; omega, by simp only; omega, by simp only; omega, by simp only; omega⟩
      · have hq := eq_false hc
        have hw := trivial
        simp (maxSteps := 4000000) -dsimp [-List.all_eq_true, -Array.all_eq_true, -Bool.exists_bool, -Bool.forall_bool, vcsE1, vcsE2, vcsE3, vcsE4, vcsE5, vcsE6, vcsE7, vcsE8, vcsE9, vcsE10, vcsE11, vcsE12, vcsE13, vcsE14, vcsE15, vcsE16, vcsE17, vcsE18, vcsE19, Sx.get, Sx.look, Sx.put, pureFn, findOrd, unF, dstOk, isFloatT, endVC, resFn, packC, newFn, storeFn, buildFn, undef, known, aggT, cellsC, Value.cells, findCon, Con.pure, Con.some, allV, partsV, partsC, fillL, Sx.exitTo, fAr, C.one, Value.oneCell', eqFn, eqFieldsFn, eqElemsFn, partFn, and_assoc, List.zipIdx, sliceFn, boundFn, AppV, CopyV, MakeSliceV, NewsV, GrowV, TextV, bytesL, notInt, typeAt, argAt, Con.read, Con.make, Con.ext, Con.rel, den, Con.extS, Con.draw, Con.step, Draws.steps, Try.f90, pickC, putC, closeC, hn3, hk6, hk7, hbase, hy, hq, hw, Con.gen]
        exact EndK.all ⟨rfl, hle3, s, p3, hP3, by omega, by omega, by omega, by omega, by omega, by omega, by omega, by omega⟩
    · have hw := trivial
      simp (maxSteps := 4000000) -dsimp [-List.all_eq_true, -Array.all_eq_true, -Bool.exists_bool, -Bool.forall_bool, vcsE1, vcsE2, vcsE3, vcsE4, vcsE5, vcsE6, vcsE7, vcsE8, vcsE9, vcsE10, vcsE11, vcsE12, vcsE13, vcsE14, vcsE15, vcsE16, vcsE17, vcsE18, vcsE19, Sx.get, Sx.look, Sx.put, pureFn, findOrd, unF, dstOk, isFloatT, endVC, resFn, packC, newFn, storeFn, buildFn, undef, known, aggT, cellsC, Value.cells, findCon, Con.pure, Con.some, allV, partsV, partsC, fillL, Sx.exitTo, fAr, C.one, Value.oneCell', eqFn, eqFieldsFn, eqElemsFn, partFn, and_assoc, List.zipIdx, sliceFn, boundFn, AppV, CopyV, MakeSliceV, NewsV, GrowV, TextV, bytesL, notInt, typeAt, argAt, Con.read, Con.make, Con.ext, Con.rel, den, Con.extS, Con.draw, Con.step, Draws.steps, Try.f90, pickC, putC, closeC, hn3, hk6, hk7, hbase, hy, hw, Con.gen]
      refine put_play hR hty (Le.refl _) hle3 hP3 (by omega) (by omega) ?_
      rintro cx4 x p4 mem4 hle4 hP4 - d1 d2
      have hn4 := hP4.lt
      obtain ⟨oc4, hk8⟩ := Play.blk hP4
      simp only at hk8
      have hk9 := (List.getElem?_eq_some_iff.1 hk8).2
      simp (maxSteps := 4000000) -dsimp [-List.all_eq_true, -Array.all_eq_true, -Bool.exists_bool, -Bool.forall_bool, vcsE1, vcsE2, vcsE3, vcsE4, vcsE5, vcsE6, vcsE7, vcsE8, vcsE9, vcsE10, vcsE11, vcsE12, vcsE13, vcsE14, vcsE15, vcsE16, vcsE17, vcsE18, vcsE19, Sx.get, Sx.look, Sx.put, pureFn, findOrd, unF, dstOk, isFloatT, endVC, resFn, packC, newFn, storeFn, buildFn, undef, known, aggT, cellsC, Value.cells, findCon, Con.pure, Con.some, allV, partsV, partsC, fillL, Sx.exitTo, fAr, C.one, Value.oneCell', eqFn, eqFieldsFn, eqElemsFn, partFn, and_assoc, List.zipIdx, sliceFn, boundFn, AppV, CopyV, MakeSliceV, NewsV, GrowV, TextV, bytesL, notInt, typeAt, argAt, Con.read, Con.make, Con.ext, Con.rel, den, Con.extS, Con.draw, Con.step, Draws.steps, Try.f90, pickC, putC, closeC, hn4, hk8, hk9, Con.gen, hw]
      exact EndK.all ⟨rfl, hle4, _, p4, hP4, by omega, by omega, by simp, by simp; try omega, by simp only; omega, by simp only; omega, by simp only; omega, by simp only; omega⟩
    · have hw := trivial
      simp (maxSteps := 4000000) -dsimp [-List.all_eq_true, -Array.all_eq_true, -Bool.exists_bool, -Bool.forall_bool, vcsE1, vcsE2, vcsE3, vcsE4, vcsE5, vcsE6, vcsE7, vcsE8, vcsE9, vcsE10, vcsE11, vcsE12, vcsE13, vcsE14, vcsE15, vcsE16, vcsE17, vcsE18, vcsE19, Sx.get, Sx.look, Sx.put, pureFn, findOrd, unF, dstOk, isFloatT, endVC, resFn, packC, newFn, storeFn, buildFn, undef, known, aggT, cellsC, Value.cells, findCon, Con.pure, Con.some, allV, partsV, partsC, fillL, Sx.exitTo, fAr, C.one, Value.oneCell', eqFn, eqFieldsFn, eqElemsFn, partFn, and_assoc, List.zipIdx, sliceFn, boundFn, AppV, CopyV, MakeSliceV, NewsV, GrowV, TextV, bytesL, notInt, typeAt, argAt, Con.read, Con.make, Con.ext, Con.rel, den, Con.extS, Con.draw, Con.step, Draws.steps, Try.f90, pickC, putC, closeC, hn3, hk6, hk7, hbase, hy, hw, Con.gen]
      refine put_play hR hty (Le.refl _) hle3 hP3 (by omega) (by omega) ?_
      rintro cx4 x p4 mem4 hle4 hP4 - d1 d2
      have hn4 := hP4.lt
      obtain ⟨oc4, hk8⟩ := Play.blk hP4
      simp only at hk8
      have hk9 := (List.getElem?_eq_some_iff.1 hk8).2
      simp (maxSteps := 4000000) -dsimp [-List.all_eq_true, -Array.all_eq_true, -Bool.exists_bool, -Bool.forall_bool, vcsE1, vcsE2, vcsE3, vcsE4, vcsE5, vcsE6, vcsE7, vcsE8, vcsE9, vcsE10, vcsE11, vcsE12, vcsE13, vcsE14, vcsE15, vcsE16, vcsE17, vcsE18, vcsE19, Sx.get, Sx.look, Sx.put, pureFn, findOrd, unF, dstOk, isFloatT, endVC, resFn, packC, newFn, storeFn, buildFn, undef, known, aggT, cellsC, Value.cells, findCon, Con.pure, Con.some, allV, partsV, partsC, fillL, Sx.exitTo, fAr, C.one, Value.oneCell', eqFn, eqFieldsFn, eqElemsFn, partFn, and_assoc, List.zipIdx, sliceFn, boundFn, AppV, CopyV, MakeSliceV, NewsV, GrowV, TextV, bytesL, notInt, typeAt, argAt, Con.read, Con.make, Con.ext, Con.rel, den, Con.extS, Con.draw, Con.step, Draws.steps, Try.f90, pickC, putC, closeC, hn4, hk8, hk9, Con.gen, hw]
      exact EndK.all ⟨rfl, hle4, _, p4, hP4, by omega, by omega, by simp, by simp; try omega, by simp only; omega, by simp only; omega, by simp only; omega, by simp only; omega⟩
    · by_cases hc : 1 ≤ s.bits
      · have hq := eq_true hc
        have hw := trivial
        simp (maxSteps := 4000000) -dsimp [-List.all_eq_true, -Array.all_eq_true, -Bool.exists_bool, -Bool.forall_bool, vcsE1, vcsE2, vcsE3, vcsE4, vcsE5, vcsE6, vcsE7, vcsE8, vcsE9, vcsE10, vcsE11, vcsE12, vcsE13, vcsE14, vcsE15, vcsE16, vcsE17, vcsE18, vcsE19, Sx.get, Sx.look, Sx.put, pureFn, findOrd, unF, dstOk, isFloatT, endVC, resFn, packC, newFn, storeFn, buildFn, undef, known, aggT, cellsC, Value.cells, findCon, Con.pure, Con.some, allV, partsV, partsC, fillL, Sx.exitTo, fAr, C.one, Value.oneCell', eqFn, eqFieldsFn, eqElemsFn, partFn, and_assoc, List.zipIdx, sliceFn, boundFn, AppV, CopyV, MakeSliceV, NewsV, GrowV, TextV, bytesL, notInt, typeAt, argAt, Con.read, Con.make, Con.ext, Con.rel, den, Con.extS, Con.draw, Con.step, Draws.steps, Try.f90, pickC, putC, closeC, hn3, hk6, hk7, hbase, hy, hq, hw, Con.gen]
        refine put_play hR hty (Le.refl _) hle3 hP3 (by omega) (by omega) ?_
        rintro cx4 x p4 mem4 hle4 hP4 - d1 d2
        have hn4 := hP4.lt
        obtain ⟨oc4, hk8⟩ := Play.blk hP4
        simp only at hk8
        have hk9 := (List.getElem?_eq_some_iff.1 hk8).2
        simp (maxSteps := 4000000) -dsimp [-List.all_eq_true, -Array.all_eq_true, -Bool.exists_bool, -Bool.forall_bool, vcsE1, vcsE2, vcsE3, vcsE4, vcsE5, vcsE6, vcsE7, vcsE8, vcsE9, vcsE10, vcsE11, vcsE12, vcsE13, vcsE14, vcsE15, vcsE16, vcsE17, vcsE18, vcsE19, Sx.get, Sx.look, Sx.put, pureFn, findOrd, unF, dstOk, isFloatT, endVC, resFn, packC, newFn, storeFn, buildFn, undef, known, aggT, cellsC, Value.cells, findCon, Con.pure, Con.some, allV, partsV, partsC, fillL, Sx.exitTo, fAr, C.one, Value.oneCell', eqFn, eqFieldsFn, eqElemsFn, partFn, and_assoc, List.zipIdx, sliceFn, boundFn, AppV, CopyV, MakeSliceV, NewsV, GrowV, TextV, bytesL, notInt, typeAt, argAt, Con.read, Con.make, Con.ext, Con.rel, den, Con.extS, Con.draw, Con.step, Draws.steps, Try.f90, pickC, putC, closeC, hn4, hk8, hk9, Con.gen, hw]
        exact EndK.all ⟨rfl, hle4, _, p4, hP4, by omega, by omega, by simp, by simp; try omega, by simp only; omega, by simp only; omega, by simp only; omega, by simp only; omega⟩
      · have hq := eq_false hc
        have hw := trivial
        simp (maxSteps := 4000000) -dsimp [-List.all_eq_true, -Array.all_eq_true, -Bool.exists_bool, -Bool.forall_bool, vcsE1, vcsE2, vcsE3, vcsE4, vcsE5, vcsE6, vcsE7, vcsE8, vcsE9, vcsE10, vcsE11, vcsE12, vcsE13, vcsE14, vcsE15, vcsE16, vcsE17, vcsE18, vcsE19, Sx.get, Sx.look, Sx.put, pureFn, findOrd, unF, dstOk, isFloatT, endVC, resFn, packC, newFn, storeFn, buildFn, undef, known, aggT, cellsC, Value.cells, findCon, Con.pure, Con.some, allV, partsV, partsC, fillL, Sx.exitTo, fAr, C.one, Value.oneCell', eqFn, eqFieldsFn, eqElemsFn, partFn, and_assoc, List.zipIdx, sliceFn, boundFn, AppV, CopyV, MakeSliceV, NewsV, GrowV, TextV, bytesL, notInt, typeAt, argAt, Con.read, Con.make, Con.ext, Con.rel, den, Con.extS, Con.draw, Con.step, Draws.steps, Try.f90, pickC, putC, closeC, hn3, hk6, hk7, hbase, hy, hq, hw, Con.gen]
        exact EndK.all ⟨rfl, hle3, s, p3, hP3, by omega, by omega, by omega, by omega, by omega, by omega, by omega, by omega⟩
    · by_cases hc : 1 ≤ s.bits
      · have hq := eq_true hc
        have hw := trivial
        simp (maxSteps := 4000000) -dsimp [-List.all_eq_true, -Array.all_eq_true, -Bool.exists_bool, -Bool.forall_bool, vcsE1, vcsE2, vcsE3, vcsE4, vcsE5, vcsE6, vcsE7, vcsE8, vcsE9, vcsE10, vcsE11, vcsE12, vcsE13, vcsE14, vcsE15, vcsE16, vcsE17, vcsE18, vcsE19, Sx.get, Sx.look, Sx.put, pureFn, findOrd, unF, dstOk, isFloatT, endVC, resFn, packC, newFn, storeFn, buildFn, undef, known, aggT, cellsC, Value.cells, findCon, Con.pure, Con.some, allV, partsV, partsC, fillL, Sx.exitTo, fAr, C.one, Value.oneCell', eqFn, eqFieldsFn, eqElemsFn, partFn, and_assoc, List.zipIdx, sliceFn, boundFn, AppV, CopyV, MakeSliceV, NewsV, GrowV, TextV, bytesL, notInt, typeAt, argAt, Con.read, Con.make, Con.ext, Con.rel, den, Con.extS, Con.draw, Con.step, Draws.steps, Try.f90, pickC, putC, closeC, hn3, hk6, hk7, hbase, hy, hq, hw, Con.gen]
        refine pick_play (hR.on hle3.fact (Nat.le_refl _)) hty (Le.refl _) hP3 (by omega) (by omega) ?_
        rintro cx5 v p5 mem5 hle5 hP5 e1 e2 ⟨z, rfl, z0, z1⟩
        have hn5 := hP5.lt
        obtain ⟨oc5, hk10⟩ := Play.blk hP5
        have hk11 := (List.getElem?_eq_some_iff.1 hk10).2
        by_cases hz : z = 0
        · simp (maxSteps := 4000000) -dsimp [-List.all_eq_true, -Array.all_eq_true, -Bool.exists_bool, -Bool.forall_bool, vcsE1, vcsE2, vcsE3, vcsE4, vcsE5, vcsE6, vcsE7, vcsE8, vcsE9, vcsE10, vcsE11, vcsE12, vcsE13, vcsE14, vcsE15, vcsE16, vcsE17, vcsE18, vcsE19, Sx.get, Sx.look, Sx.put, pureFn, findOrd, unF, dstOk, isFloatT, endVC, resFn, packC, newFn, storeFn, buildFn, undef, known, aggT, cellsC, Value.cells, findCon, Con.pure, Con.some, allV, partsV, partsC, fillL, Sx.exitTo, fAr, C.one, Value.oneCell', eqFn, eqFieldsFn, eqElemsFn, partFn, and_assoc, List.zipIdx, sliceFn, boundFn, AppV, CopyV, MakeSliceV, NewsV, GrowV, TextV, bytesL, notInt, typeAt, argAt, Con.read, Con.make, Con.ext, Con.rel, den, Con.extS, Con.draw, Con.step, Draws.steps, Try.f90, pickC, putC, closeC, hn5, hk10, hk11, hz, Con.gen]
          refine put_play hR hty (Le.refl _) (hle3.trans hle5) hP5 (by omega) (by omega) ?_
          rintro cx4 x p4 mem4 hle4 hP4 - d1 d2
          have hn4 := hP4.lt
          obtain ⟨oc4, hk8⟩ := Play.blk hP4
          simp only at hk8
          have hk9 := (List.getElem?_eq_some_iff.1 hk8).2
          simp (maxSteps := 4000000) -dsimp [-List.all_eq_true, -Array.all_eq_true, -Bool.exists_bool, -Bool.forall_bool, vcsE1, vcsE2, vcsE3, vcsE4, vcsE5, vcsE6, vcsE7, vcsE8, vcsE9, vcsE10, vcsE11, vcsE12, vcsE13, vcsE14, vcsE15, vcsE16, vcsE17, vcsE18, vcsE19, Sx.get, Sx.look, Sx.put, pureFn, findOrd, unF, dstOk, isFloatT, endVC, resFn, packC, newFn, storeFn, buildFn, undef, known, aggT, cellsC, Value.cells, findCon, Con.pure, Con.some, allV, partsV, partsC, fillL, Sx.exitTo, fAr, C.one, Value.oneCell', eqFn, eqFieldsFn, eqElemsFn, partFn, and_assoc, List.zipIdx, sliceFn, boundFn, AppV, CopyV, MakeSliceV, NewsV, GrowV, TextV, bytesL, notInt, typeAt, argAt, Con.read, Con.make, Con.ext, Con.rel, den, Con.extS, Con.draw, Con.step, Draws.steps, Try.f90, pickC, putC, closeC, hn4, hk8, hk9, Con.gen, hw]
          exact EndK.all ⟨rfl, hle4, _, p4, hP4, by omega, by omega, by simp, by simp; try omega, by simp only; omega, by simp only; omega, by simp only; omega, by simp only; omega⟩
        · simp (maxSteps := 4000000) -dsimp [-List.all_eq_true, -Array.all_eq_true, -Bool.exists_bool, -Bool.forall_bool, vcsE1, vcsE2, vcsE3, vcsE4, vcsE5, vcsE6, vcsE7, vcsE8, vcsE9, vcsE10, vcsE11, vcsE12, vcsE13, vcsE14, vcsE15, vcsE16, vcsE17, vcsE18, vcsE19, Sx.get, Sx.look, Sx.put, pureFn, findOrd, unF, dstOk, isFloatT, endVC, resFn, packC, newFn, storeFn, buildFn, undef, known, aggT, cellsC, Value.cells, findCon, Con.pure, Con.some, allV, partsV, partsC, fillL, Sx.exitTo, fAr, C.one, Value.oneCell', eqFn, eqFieldsFn, eqElemsFn, partFn, and_assoc, List.zipIdx, sliceFn, boundFn, AppV, CopyV, MakeSliceV, NewsV, GrowV, TextV, bytesL, notInt, typeAt, argAt, Con.read, Con.make, Con.ext, Con.rel, den, Con.extS, Con.draw, Con.step, Draws.steps, Try.f90, pickC, putC, closeC, hn5, hk10, hk11, hz, Con.gen]
          exact EndK.all ⟨rfl, hle3.trans hle5, s, p5, hP5, by omega, by omega, by omega, by omega, by omega, by omega, by omega, by omega⟩
      · have hq := eq_false hc
        have hw := trivial
        simp (maxSteps := 4000000) -dsimp [-List.all_eq_true, -Array.all_eq_true, -Bool.exists_bool, -Bool.forall_bool, vcsE1, vcsE2, vcsE3, vcsE4, vcsE5, vcsE6, vcsE7, vcsE8, vcsE9, vcsE10, vcsE11, vcsE12, vcsE13, vcsE14, vcsE15, vcsE16, vcsE17, vcsE18, vcsE19, Sx.get, Sx.look, Sx.put, pureFn, findOrd, unF, dstOk, isFloatT, endVC, resFn, packC, newFn, storeFn, buildFn, undef, known, aggT, cellsC, Value.cells, findCon, Con.pure, Con.some, allV, partsV, partsC, fillL, Sx.exitTo, fAr, C.one, Value.oneCell', eqFn, eqFieldsFn, eqElemsFn, partFn, and_assoc, List.zipIdx, sliceFn, boundFn, AppV, CopyV, MakeSliceV, NewsV, GrowV, TextV, bytesL, notInt, typeAt, argAt, Con.read, Con.make, Con.ext, Con.rel, den, Con.extS, Con.draw, Con.step, Draws.steps, Try.f90, pickC, putC, closeC, hn3, hk6, hk7, hbase, hy, hq, hw, Con.gen]
        exact EndK.all ⟨rfl, hle3, s, p3, hP3, by omega, by omega, by omega, by omega, by omega, by omega, by omega, by omega⟩
    · by_cases hc : 1 < s.bits
      · have hq := eq_true hc
        have hw := (wrap_i64 (x := s.bits - 1) (by omega) (by omega))
        simp (maxSteps := 4000000) -dsimp [-List.all_eq_true, -Array.all_eq_true, -Bool.exists_bool, -Bool.forall_bool, vcsE1, vcsE2, vcsE3, vcsE4, vcsE5, vcsE6, vcsE7, vcsE8, vcsE9, vcsE10, vcsE11, vcsE12, vcsE13, vcsE14, vcsE15, vcsE16, vcsE17, vcsE18, vcsE19, Sx.get, Sx.look, Sx.put, pureFn, findOrd, unF, dstOk, isFloatT, endVC, resFn, packC, newFn, storeFn, buildFn, undef, known, aggT, cellsC, Value.cells, findCon, Con.pure, Con.some, allV, partsV, partsC, fillL, Sx.exitTo, fAr, C.one, Value.oneCell', eqFn, eqFieldsFn, eqElemsFn, partFn, and_assoc, List.zipIdx, sliceFn, boundFn, AppV, CopyV, MakeSliceV, NewsV, GrowV, TextV, bytesL, notInt, typeAt, argAt, Con.read, Con.make, Con.ext, Con.rel, den, Con.extS, Con.draw, Con.step, Draws.steps, Try.f90, pickC, putC, closeC, hn3, hk6, hk7, hbase, hy, hq, hw, Con.gen]
        refine put_play hR hty (Le.refl _) hle3 hP3 (by omega) (by omega) ?_
        rintro cx4 x p4 mem4 hle4 hP4 - d1 d2
        have hn4 := hP4.lt
        obtain ⟨oc4, hk8⟩ := Play.blk hP4
        simp only at hk8
        have hk9 := (List.getElem?_eq_some_iff.1 hk8).2
        simp (maxSteps := 4000000) -dsimp [-List.all_eq_true, -Array.all_eq_true, -Bool.exists_bool, -Bool.forall_bool, vcsE1, vcsE2, vcsE3, vcsE4, vcsE5, vcsE6, vcsE7, vcsE8, vcsE9, vcsE10, vcsE11, vcsE12, vcsE13, vcsE14, vcsE15, vcsE16, vcsE17, vcsE18, vcsE19, Sx.get, Sx.look, Sx.put, pureFn, findOrd, unF, dstOk, isFloatT, endVC, resFn, packC, newFn, storeFn, buildFn, undef, known, aggT, cellsC, Value.cells, findCon, Con.pure, Con.some, allV, partsV, partsC, fillL, Sx.exitTo, fAr, C.one, Value.oneCell', eqFn, eqFieldsFn, eqElemsFn, partFn, and_assoc, List.zipIdx, sliceFn, boundFn, AppV, CopyV, MakeSliceV, NewsV, GrowV, TextV, bytesL, notInt, typeAt, argAt, Con.read, Con.make, Con.ext, Con.rel, den, Con.extS, Con.draw, Con.step, Draws.steps, Try.f90, pickC, putC, closeC, hn4, hk8, hk9, Con.gen, hw]
        exact EndK.all ⟨rfl, hle4, _, p4, (Play.upd' hP4 hk8 (s.bits - 1) s.forks _ _), by omega, by omega, by simp, by simp; try omega, by simp only; omega, by simp only; omega, by simp only; omega, by simp only; omega⟩
      · have hq := eq_false hc
        have hw := trivial
        simp (maxSteps := 4000000) -dsimp [-List.all_eq_true, -Array.all_eq_true, -Bool.exists_bool, -Bool.forall_bool, vcsE1, vcsE2, vcsE3, vcsE4, vcsE5, vcsE6, vcsE7, vcsE8, vcsE9, vcsE10, vcsE11, vcsE12, vcsE13, vcsE14, vcsE15, vcsE16, vcsE17, vcsE18, vcsE19, Sx.get, Sx.look, Sx.put, pureFn, findOrd, unF, dstOk, isFloatT, endVC, resFn, packC, newFn, storeFn, buildFn, undef, known, aggT, cellsC, Value.cells, findCon, Con.pure, Con.some, allV, partsV, partsC, fillL, Sx.exitTo, fAr, C.one, Value.oneCell', eqFn, eqFieldsFn, eqElemsFn, partFn, and_assoc, List.zipIdx, sliceFn, boundFn, AppV, CopyV, MakeSliceV, NewsV, GrowV, TextV, bytesL, notInt, typeAt, argAt, Con.read, Con.make, Con.ext, Con.rel, den, Con.extS, Con.draw, Con.step, Draws.steps, Try.f90, pickC, putC, closeC, hn3, hk6, hk7, hbase, hy, hq, hw, Con.gen]
        exact EndK.all ⟨rfl, hle3, s, p3, hP3, by omega, by omega, by omega, by omega, by omega, by omega, by omega, by omega⟩
    · by_cases hc : 1 < s.bits
      · have hq := eq_true hc
        have hw := (wrap_i64 (x := s.bits - 1) (by omega) (by omega))
        simp (maxSteps := 4000000) -dsimp [-List.all_eq_true, -Array.all_eq_true, -Bool.exists_bool, -Bool.forall_bool, vcsE1, vcsE2, vcsE3, vcsE4, vcsE5, vcsE6, vcsE7, vcsE8, vcsE9, vcsE10, vcsE11, vcsE12, vcsE13, vcsE14, vcsE15, vcsE16, vcsE17, vcsE18, vcsE19, Sx.get, Sx.look, Sx.put, pureFn, findOrd, unF, dstOk, isFloatT, endVC, resFn, packC, newFn, storeFn, buildFn, undef, known, aggT, cellsC, Value.cells, findCon, Con.pure, Con.some, allV, partsV, partsC, fillL, Sx.exitTo, fAr, C.one, Value.oneCell', eqFn, eqFieldsFn, eqElemsFn, partFn, and_assoc, List.zipIdx, sliceFn, boundFn, AppV, CopyV, MakeSliceV, NewsV, GrowV, TextV, bytesL, notInt, typeAt, argAt, Con.read, Con.make, Con.ext, Con.rel, den, Con.extS, Con.draw, Con.step, Draws.steps, Try.f90, pickC, putC, closeC, hn3, hk6, hk7, hbase, hy, hq, hw, Con.gen]
        refine put_play hR hty (Le.refl _) hle3 hP3 (by omega) (by omega) ?_
        rintro cx4 x p4 mem4 hle4 hP4 - d1 d2
        have hn4 := hP4.lt
        obtain ⟨oc4, hk8⟩ := Play.blk hP4
        simp only at hk8
        have hk9 := (List.getElem?_eq_some_iff.1 hk8).2
        simp (maxSteps := 4000000) -dsimp [-List.all_eq_true, -Array.all_eq_true, -Bool.exists_bool, -Bool.forall_bool, vcsE1, vcsE2, vcsE3, vcsE4, vcsE5, vcsE6, vcsE7, vcsE8, vcsE9, vcsE10, vcsE11, vcsE12, vcsE13, vcsE14, vcsE15, vcsE16, vcsE17, vcsE18, vcsE19, Sx.get, Sx.look, Sx.put, pureFn, findOrd, unF, dstOk, isFloatT, endVC, resFn, packC, newFn, storeFn, buildFn, undef, known, aggT, cellsC, Value.cells, findCon, Con.pure, Con.some, allV, partsV, partsC, fillL, Sx.exitTo, fAr, C.one, Value.oneCell', eqFn, eqFieldsFn, eqElemsFn, partFn, and_assoc, List.zipIdx, sliceFn, boundFn, AppV, CopyV, MakeSliceV, NewsV, GrowV, TextV, bytesL, notInt, typeAt, argAt, Con.read, Con.make, Con.ext, Con.rel, den, Con.extS, Con.draw, Con.step, Draws.steps, Try.f90, pickC, putC, closeC, hn4, hk8, hk9, Con.gen, hw]
        exact EndK.all ⟨rfl, hle4, _, p4, (Play.upd' hP4 hk8 (s.bits - 1) s.forks _ _), by omega, by omega, by simp, by simp; try omega, by simp only; omega, by simp only; omega, by simp only; omega, by simp only; omega⟩
      · have hq := eq_false hc
        have hw := trivial
        simp (maxSteps := 4000000) -dsimp [-List.all_eq_true, -Array.all_eq_true, -Bool.exists_bool, -Bool.forall_bool, vcsE1, vcsE2, vcsE3, vcsE4, vcsE5, vcsE6, vcsE7, vcsE8, vcsE9, vcsE10, vcsE11, vcsE12, vcsE13, vcsE14, vcsE15, vcsE16, vcsE17, vcsE18, vcsE19, Sx.get, Sx.look, Sx.put, pureFn, findOrd, unF, dstOk, isFloatT, endVC, resFn, packC, newFn, storeFn, buildFn, undef, known, aggT, cellsC, Value.cells, findCon, Con.pure, Con.some, allV, partsV, partsC, fillL, Sx.exitTo, fAr, C.one, Value.oneCell', eqFn, eqFieldsFn, eqElemsFn, partFn, and_assoc, List.zipIdx, sliceFn, boundFn, AppV, CopyV, MakeSliceV, NewsV, GrowV, TextV, bytesL, notInt, typeAt, argAt, Con.read, Con.make, Con.ext, Con.rel, den, Con.extS, Con.draw, Con.step, Draws.steps, Try.f90, pickC, putC, closeC, hn3, hk6, hk7, hbase, hy, hq, hw, Con.gen]
        exact EndK.all ⟨rfl, hle3, s, p3, hP3, by omega, by omega, by omega, by omega, by omega, by omega, by omega, by omega⟩
    · by_cases hc : s.bits = 1
      · have hq := eq_true hc
        have hw := trivial
        simp (maxSteps := 4000000) -dsimp [-List.all_eq_true, -Array.all_eq_true, -Bool.exists_bool, -Bool.forall_bool, vcsE1, vcsE2, vcsE3, vcsE4, vcsE5, vcsE6, vcsE7, vcsE8, vcsE9, vcsE10, vcsE11, vcsE12, vcsE13, vcsE14, vcsE15, vcsE16, vcsE17, vcsE18, vcsE19, Sx.get, Sx.look, Sx.put, pureFn, findOrd, unF, dstOk, isFloatT, endVC, resFn, packC, newFn, storeFn, buildFn, undef, known, aggT, cellsC, Value.cells, findCon, Con.pure, Con.some, allV, partsV, partsC, fillL, Sx.exitTo, fAr, C.one, Value.oneCell', eqFn, eqFieldsFn, eqElemsFn, partFn, and_assoc, List.zipIdx, sliceFn, boundFn, AppV, CopyV, MakeSliceV, NewsV, GrowV, TextV, bytesL, notInt, typeAt, argAt, Con.read, Con.make, Con.ext, Con.rel, den, Con.extS, Con.draw, Con.step, Draws.steps, Try.f90, pickC, putC, closeC, hn3, hk6, hk7, hbase, hy, hq, hw, Con.gen]
        refine put_play hR hty (Le.refl _) hle3 hP3 (by omega) (by omega) ?_
        rintro cx4 x p4 mem4 hle4 hP4 - d1 d2
        have hn4 := hP4.lt
        obtain ⟨oc4, hk8⟩ := Play.blk hP4
        simp only at hk8
        have hk9 := (List.getElem?_eq_some_iff.1 hk8).2
        simp (maxSteps := 4000000) -dsimp [-List.all_eq_true, -Array.all_eq_true, -Bool.exists_bool, -Bool.forall_bool, vcsE1, vcsE2, vcsE3, vcsE4, vcsE5, vcsE6, vcsE7, vcsE8, vcsE9, vcsE10, vcsE11, vcsE12, vcsE13, vcsE14, vcsE15, vcsE16, vcsE17, vcsE18, vcsE19, Sx.get, Sx.look, Sx.put, pureFn, findOrd, unF, dstOk, isFloatT, endVC, resFn, packC, newFn, storeFn, buildFn, undef, known, aggT, cellsC, Value.cells, findCon, Con.pure, Con.some, allV, partsV, partsC, fillL, Sx.exitTo, fAr, C.one, Value.oneCell', eqFn, eqFieldsFn, eqElemsFn, partFn, and_assoc, List.zipIdx, sliceFn, boundFn, AppV, CopyV, MakeSliceV, NewsV, GrowV, TextV, bytesL, notInt, typeAt, argAt, Con.read, Con.make, Con.ext, Con.rel, den, Con.extS, Con.draw, Con.step, Draws.steps, Try.f90, pickC, putC, closeC, hn4, hk8, hk9, Con.gen, hw]
        exact EndK.all ⟨rfl, hle4, _, p4, hP4, by omega, by omega, by simp, by simp; try omega, by simp only; omega, by simp only; omega, by simp only; omega, by simp only; omega⟩
      · have hq := eq_false hc
        have hw := trivial
        simp (maxSteps := 4000000) -dsimp [-List.all_eq_true, -Array.all_eq_true, -Bool.exists_bool, -Bool.forall_bool, vcsE1, vcsE2, vcsE3, vcsE4, vcsE5, vcsE6, vcsE7, vcsE8, vcsE9, vcsE10, vcsE11, vcsE12, vcsE13, vcsE14, vcsE15, vcsE16, vcsE17, vcsE18, vcsE19, Sx.get, Sx.look, Sx.put, pureFn, findOrd, unF, dstOk, isFloatT, endVC, resFn, packC, newFn, storeFn, buildFn, undef, known, aggT, cellsC, Value.cells, findCon, Con.pure, Con.some, allV, partsV, partsC, fillL, Sx.exitTo, fAr, C.one, Value.oneCell', eqFn, eqFieldsFn, eqElemsFn, partFn, and_assoc, List.zipIdx, sliceFn, boundFn, AppV, CopyV, MakeSliceV, NewsV, GrowV, TextV, bytesL, notInt, typeAt, argAt, Con.read, Con.make, Con.ext, Con.rel, den, Con.extS, Con.draw, Con.step, Draws.steps, Try.f90, pickC, putC, closeC, hn3, hk6, hk7, hbase, hy, hq, hw, Con.gen]
        exact EndK.all ⟨rfl, hle3, s, p3, hP3, by omega, by omega, by omega, by omega, by omega, by omega, by omega, by omega⟩
    · by_cases hc : s.bits = 1
      · have hq := eq_true hc
        by_cases hd : s.forks < 8
        · have hr := eq_true hd
          have hw := (wrap_i64 (x := s.forks + 1) (by omega) (by omega))
          simp (maxSteps := 4000000) -dsimp [-List.all_eq_true, -Array.all_eq_true, -Bool.exists_bool, -Bool.forall_bool, vcsE1, vcsE2, vcsE3, vcsE4, vcsE5, vcsE6, vcsE7, vcsE8, vcsE9, vcsE10, vcsE11, vcsE12, vcsE13, vcsE14, vcsE15, vcsE16, vcsE17, vcsE18, vcsE19, Sx.get, Sx.look, Sx.put, pureFn, findOrd, unF, dstOk, isFloatT, endVC, resFn, packC, newFn, storeFn, buildFn, undef, known, aggT, cellsC, Value.cells, findCon, Con.pure, Con.some, allV, partsV, partsC, fillL, Sx.exitTo, fAr, C.one, Value.oneCell', eqFn, eqFieldsFn, eqElemsFn, partFn, and_assoc, List.zipIdx, sliceFn, boundFn, AppV, CopyV, MakeSliceV, NewsV, GrowV, TextV, bytesL, notInt, typeAt, argAt, Con.read, Con.make, Con.ext, Con.rel, den, Con.extS, Con.draw, Con.step, Draws.steps, Try.f90, pickC, putC, closeC, hn3, hk6, hk7, hbase, hy, hq, hr, hw, Con.gen]
          refine put_play hR hty (Le.refl _) hle3 hP3 (by omega) (by omega) ?_
          rintro cx4 x p4 mem4 hle4 hP4 - d1 d2
          have hn4 := hP4.lt
          obtain ⟨oc4, hk8⟩ := Play.blk hP4
          simp only at hk8
          have hk9 := (List.getElem?_eq_some_iff.1 hk8).2
          simp (maxSteps := 4000000) -dsimp [-List.all_eq_true, -Array.all_eq_true, -Bool.exists_bool, -Bool.forall_bool, vcsE1, vcsE2, vcsE3, vcsE4, vcsE5, vcsE6, vcsE7, vcsE8, vcsE9, vcsE10, vcsE11, vcsE12, vcsE13, vcsE14, vcsE15, vcsE16, vcsE17, vcsE18, vcsE19, Sx.get, Sx.look, Sx.put, pureFn, findOrd, unF, dstOk, isFloatT, endVC, resFn, packC, newFn, storeFn, buildFn, undef, known, aggT, cellsC, Value.cells, findCon, Con.pure, Con.some, allV, partsV, partsC, fillL, Sx.exitTo, fAr, C.one, Value.oneCell', eqFn, eqFieldsFn, eqElemsFn, partFn, and_assoc, List.zipIdx, sliceFn, boundFn, AppV, CopyV, MakeSliceV, NewsV, GrowV, TextV, bytesL, notInt, typeAt, argAt, Con.read, Con.make, Con.ext, Con.rel, den, Con.extS, Con.draw, Con.step, Draws.steps, Try.f90, pickC, putC, closeC, hn4, hk8, hk9, Con.gen, hw]
          exact EndK.all ⟨rfl, hle4, _, p4, (Play.upd' hP4 hk8 s.bits (s.forks + 1) _ _), by omega, by omega, by simp, by simp; try omega, by simp only; omega, by simp only; omega, by simp only; omega, by simp only; omega⟩
        · have hr := eq_false hd
          have hw := trivial
          simp (maxSteps := 4000000) -dsimp [-List.all_eq_true, -Array.all_eq_true, -Bool.exists_bool, -Bool.forall_bool, vcsE1, vcsE2, vcsE3, vcsE4, vcsE5, vcsE6, vcsE7, vcsE8, vcsE9, vcsE10, vcsE11, vcsE12, vcsE13, vcsE14, vcsE15, vcsE16, vcsE17, vcsE18, vcsE19, Sx.get, Sx.look, Sx.put, pureFn, findOrd, unF, dstOk, isFloatT, endVC, resFn, packC, newFn, storeFn, buildFn, undef, known, aggT, cellsC, Value.cells, findCon, Con.pure, Con.some, allV, partsV, partsC, fillL, Sx.exitTo, fAr, C.one, Value.oneCell', eqFn, eqFieldsFn, eqElemsFn, partFn, and_assoc, List.zipIdx, sliceFn, boundFn, AppV, CopyV, MakeSliceV, NewsV, GrowV, TextV, bytesL, notInt, typeAt, argAt, Con.read, Con.make, Con.ext, Con.rel, den, Con.extS, Con.draw, Con.step, Draws.steps, Try.f90, pickC, putC, closeC, hn3, hk6, hk7, hbase, hy, hq, hr, hw, Con.gen]
          exact EndK.all ⟨rfl, hle3, s, p3, hP3, by omega, by omega, by omega, by omega, by omega, by omega, by omega, by omega⟩
      · have hq := eq_false hc
        have hw := trivial
        simp (maxSteps := 4000000) -dsimp [-List.all_eq_true, -Array.all_eq_true, -Bool.exists_bool, -Bool.forall_bool, vcsE1, vcsE2, vcsE3, vcsE4, vcsE5, vcsE6, vcsE7, vcsE8, vcsE9, vcsE10, vcsE11, vcsE12, vcsE13, vcsE14, vcsE15, vcsE16, vcsE17, vcsE18, vcsE19, Sx.get, Sx.look, Sx.put, pureFn, findOrd, unF, dstOk, isFloatT, endVC, resFn, packC, newFn, storeFn, buildFn, undef, known, aggT, cellsC, Value.cells, findCon, Con.pure, Con.some, allV, partsV, partsC, fillL, Sx.exitTo, fAr, C.one, Value.oneCell', eqFn, eqFieldsFn, eqElemsFn, partFn, and_assoc, List.zipIdx, sliceFn, boundFn, AppV, CopyV, MakeSliceV, NewsV, GrowV, TextV, bytesL, notInt, typeAt, argAt, Con.read, Con.make, Con.ext, Con.rel, den, Con.extS, Con.draw, Con.step, Draws.steps, Try.f90, pickC, putC, closeC, hn3, hk6, hk7, hbase, hy, hq, hw, Con.gen]
        exact EndK.all ⟨rfl, hle3, s, p3, hP3, by omega, by omega, by omega, by omega, by omega, by omega, by omega, by omega⟩
    · by_cases hc : 0 < s.forks
      · have hq := eq_true hc
        simp (maxSteps := 4000000) -dsimp [-List.all_eq_true, -Array.all_eq_true, -Bool.exists_bool, -Bool.forall_bool, vcsE1, vcsE2, vcsE3, vcsE4, vcsE5, vcsE6, vcsE7, vcsE8, vcsE9, vcsE10, vcsE11, vcsE12, vcsE13, vcsE14, vcsE15, vcsE16, vcsE17, vcsE18, vcsE19, Sx.get, Sx.look, Sx.put, pureFn, findOrd, unF, dstOk, isFloatT, endVC, resFn, packC, newFn, storeFn, buildFn, undef, known, aggT, cellsC, Value.cells, findCon, Con.pure, Con.some, allV, partsV, partsC, fillL, Sx.exitTo, fAr, C.one, Value.oneCell', eqFn, eqFieldsFn, eqElemsFn, partFn, and_assoc, List.zipIdx, sliceFn, boundFn, AppV, CopyV, MakeSliceV, NewsV, GrowV, TextV, bytesL, notInt, typeAt, argAt, Con.read, Con.make, Con.ext, Con.rel, den, Con.extS, Con.draw, Con.step, Draws.steps, Try.f90, pickC, putC, closeC, hn3, hk6, hk7, hbase, hy, hq, Con.gen]
        refine close_play hR hty (Le.refl _) hle3 hP3 (by omega) (by omega) (by omega) ?_
        rintro cx4 s4 p4 mem4 hle4 hP4 d1 d2 d3 d4 d5 d6
        have hn4 := hP4.lt
        obtain ⟨oc4, hk8⟩ := Play.blk hP4
        have hk9 := (List.getElem?_eq_some_iff.1 hk8).2
        simp (maxSteps := 4000000) -dsimp [-List.all_eq_true, -Array.all_eq_true, -Bool.exists_bool, -Bool.forall_bool, vcsE1, vcsE2, vcsE3, vcsE4, vcsE5, vcsE6, vcsE7, vcsE8, vcsE9, vcsE10, vcsE11, vcsE12, vcsE13, vcsE14, vcsE15, vcsE16, vcsE17, vcsE18, vcsE19, Sx.get, Sx.look, Sx.put, pureFn, findOrd, unF, dstOk, isFloatT, endVC, resFn, packC, newFn, storeFn, buildFn, undef, known, aggT, cellsC, Value.cells, findCon, Con.pure, Con.some, allV, partsV, partsC, fillL, Sx.exitTo, fAr, C.one, Value.oneCell', eqFn, eqFieldsFn, eqElemsFn, partFn, and_assoc, List.zipIdx, sliceFn, boundFn, AppV, CopyV, MakeSliceV, NewsV, GrowV, TextV, bytesL, notInt, typeAt, argAt, Con.read, Con.make, Con.ext, Con.rel, den, Con.extS, Con.draw, Con.step, Draws.steps, Try.f90, pickC, putC, closeC, hn4, hk8, hk9, Con.gen]
        refine pick_play (hR.on hle4.fact (Nat.le_refl _)) hty (Le.refl _) hP4 (by omega) (by omega) ?_
        rintro cx5 v p5 mem5 hle5 hP5 e1 e2 ⟨z, rfl, z0, z1⟩
        have hn5 := hP5.lt
        obtain ⟨oc5, hk10⟩ := Play.blk hP5
        have hk11 := (List.getElem?_eq_some_iff.1 hk10).2
        have hw8 : IntKind.i64.wrap (8 + z) = 8 + z := wrap_i64 (by omega) (by omega)
        simp (maxSteps := 4000000) -dsimp [-List.all_eq_true, -Array.all_eq_true, -Bool.exists_bool, -Bool.forall_bool, vcsE1, vcsE2, vcsE3, vcsE4, vcsE5, vcsE6, vcsE7, vcsE8, vcsE9, vcsE10, vcsE11, vcsE12, vcsE13, vcsE14, vcsE15, vcsE16, vcsE17, vcsE18, vcsE19, Sx.get, Sx.look, Sx.put, pureFn, findOrd, unF, dstOk, isFloatT, endVC, resFn, packC, newFn, storeFn, buildFn, undef, known, aggT, cellsC, Value.cells, findCon, Con.pure, Con.some, allV, partsV, partsC, fillL, Sx.exitTo, fAr, C.one, Value.oneCell', eqFn, eqFieldsFn, eqElemsFn, partFn, and_assoc, List.zipIdx, sliceFn, boundFn, AppV, CopyV, MakeSliceV, NewsV, GrowV, TextV, bytesL, notInt, typeAt, argAt, Con.read, Con.make, Con.ext, Con.rel, den, Con.extS, Con.draw, Con.step, Draws.steps, Try.f90, pickC, putC, closeC, hn5, hk10, hk11, hw8, Con.gen]
        refine put_play hR hty (Le.refl _) (hle4.trans hle5) hP5 (by omega) (by omega) ?_
        rintro cx6 x p6 mem6 hle6 hP6 hxc f1 f2
        have hn6 := hP6.lt
        obtain ⟨oc6, hk12, ho6⟩ := hP6.ex
        unfold playBlk at hk12
        simp only at hk12 ho6
        have hk13 := (List.getElem?_eq_some_iff.1 hk12).2
        obtain ⟨ko, bo, cap, rows, pad, rfl, hko, hm6, hlast, hc1, hc2, hlen6⟩ := OutRow.last ho6
        rw [hxc] at hlast
        have hkl6 := (List.getElem?_eq_some_iff.1 hm6).1
        have hm7 := (List.getElem?_eq_some_iff.1 hm6).2
        have hll := (List.getElem?_eq_some_iff.1 hlast).1
        have hlg := (List.getElem?_eq_some_iff.1 hlast).2
        have hw6 : IntKind.i64.wrap ((s4.xs.length : Int) + 1 - 1) = s4.xs.length := by rw [wrap_i64 (by omega) (by omega)]; omega
        have hw7 : IntKind.i64.wrap (s4.xs.length : Int) = s4.xs.length := wrap_i64 (by omega) (by omega)
        have hlt6 : (s4.xs.length : Int) < (s4.xs.length : Int) + 1 := by omega
        have hwf : IntKind.i64.wrap (s4.forks - 1) = s4.forks - 1 := wrap_i64 (by omega) (by omega)
        by_cases hz : z = 1
        · simp (maxSteps := 4000000) -dsimp [-List.all_eq_true, -Array.all_eq_true, -Bool.exists_bool, -Bool.forall_bool, vcsE1, vcsE2, vcsE3, vcsE4, vcsE5, vcsE6, vcsE7, vcsE8, vcsE9, vcsE10, vcsE11, vcsE12, vcsE13, vcsE14, vcsE15, vcsE16, vcsE17, vcsE18, vcsE19, Sx.get, Sx.look, Sx.put, pureFn, findOrd, unF, dstOk, isFloatT, endVC, resFn, packC, newFn, storeFn, buildFn, undef, known, aggT, cellsC, Value.cells, findCon, Con.pure, Con.some, allV, partsV, partsC, fillL, Sx.exitTo, fAr, C.one, Value.oneCell', eqFn, eqFieldsFn, eqElemsFn, partFn, and_assoc, List.zipIdx, sliceFn, boundFn, AppV, CopyV, MakeSliceV, NewsV, GrowV, TextV, bytesL, notInt, typeAt, argAt, Con.read, Con.make, Con.ext, Con.rel, den, Con.extS, Con.draw, Con.step, Draws.steps, Try.f90, pickC, putC, closeC, hn6, hk12, hk13, hm6, hm7, hkl6, hlast, hll, hlg, hw6, hw7, hlt6, hwf, hz, Con.gen]
          subst hz
          exact EndK.all ⟨rfl, hle6, _, p6, (Play.upd' hP6 hk12 s4.bits (s4.forks - 1) _ _), by omega, by omega, by simp; omega, by simp; omega, by simp only; omega, by simp only; omega, by simp only; omega, by simp only; omega⟩
        · simp (maxSteps := 4000000) -dsimp [-List.all_eq_true, -Array.all_eq_true, -Bool.exists_bool, -Bool.forall_bool, vcsE1, vcsE2, vcsE3, vcsE4, vcsE5, vcsE6, vcsE7, vcsE8, vcsE9, vcsE10, vcsE11, vcsE12, vcsE13, vcsE14, vcsE15, vcsE16, vcsE17, vcsE18, vcsE19, Sx.get, Sx.look, Sx.put, pureFn, findOrd, unF, dstOk, isFloatT, endVC, resFn, packC, newFn, storeFn, buildFn, undef, known, aggT, cellsC, Value.cells, findCon, Con.pure, Con.some, allV, partsV, partsC, fillL, Sx.exitTo, fAr, C.one, Value.oneCell', eqFn, eqFieldsFn, eqElemsFn, partFn, and_assoc, List.zipIdx, sliceFn, boundFn, AppV, CopyV, MakeSliceV, NewsV, GrowV, TextV, bytesL, notInt, typeAt, argAt, Con.read, Con.make, Con.ext, Con.rel, den, Con.extS, Con.draw, Con.step, Draws.steps, Try.f90, pickC, putC, closeC, hn6, hk12, hk13, hm6, hm7, hkl6, hlast, hll, hlg, hw6, hw7, hlt6, hwf, hz, Con.gen]
          refine ⟨fun h9 => absurd h9 (by omega), fun _ => ?_⟩
          exact EndK.all ⟨rfl, hle6, _, p6, hP6, by omega, by omega, by simp; omega, by simp; omega, by simp only; omega, by simp only; omega, by simp only; omega, by simp only; omega⟩
      · have hq := eq_false hc
        simp (maxSteps := 4000000) -dsimp [-List.all_eq_true, -Array.all_eq_true, -Bool.exists_bool, -Bool.forall_bool, vcsE1, vcsE2, vcsE3, vcsE4, vcsE5, vcsE6, vcsE7, vcsE8, vcsE9, vcsE10, vcsE11, vcsE12, vcsE13, vcsE14, vcsE15, vcsE16, vcsE17, vcsE18, vcsE19, Sx.get, Sx.look, Sx.put, pureFn, findOrd, unF, dstOk, isFloatT, endVC, resFn, packC, newFn, storeFn, buildFn, undef, known, aggT, cellsC, Value.cells, findCon, Con.pure, Con.some, allV, partsV, partsC, fillL, Sx.exitTo, fAr, C.one, Value.oneCell', eqFn, eqFieldsFn, eqElemsFn, partFn, and_assoc, List.zipIdx, sliceFn, boundFn, AppV, CopyV, MakeSliceV, NewsV, GrowV, TextV, bytesL, notInt, typeAt, argAt, Con.read, Con.make, Con.ext, Con.rel, den, Con.extS, Con.draw, Con.step, Draws.steps, Try.f90, pickC, putC, closeC, hn3, hk6, hk7, hbase, hy, hq, Con.gen]
        exact EndK.all ⟨rfl, hle3, s, p3, hP3, by omega, by omega, by omega, by omega, by omega, by omega, by omega, by omega⟩
  · simp (maxSteps := 4000000) -dsimp [-List.all_eq_true, -Array.all_eq_true, -Bool.exists_bool, -Bool.forall_bool, vcsE1, vcsE2, vcsE3, vcsE4, vcsE5, vcsE6, vcsE7, vcsE8, vcsE9, vcsE10, vcsE11, vcsE12, vcsE13, vcsE14, vcsE15, vcsE16, vcsE17, vcsE18, vcsE19, Sx.get, Sx.look, Sx.put, pureFn, findOrd, unF, dstOk, isFloatT, endVC, resFn, packC, newFn, storeFn, buildFn, undef, known, aggT, cellsC, Value.cells, findCon, Con.pure, Con.some, allV, partsV, partsC, fillL, Sx.exitTo, fAr, C.one, Value.oneCell', eqFn, eqFieldsFn, eqElemsFn, partFn, and_assoc, List.zipIdx, sliceFn, boundFn, AppV, CopyV, MakeSliceV, NewsV, GrowV, TextV, bytesL, notInt, typeAt, argAt, Con.read, Con.make, Con.ext, Con.rel, den, Con.extS, Con.draw, Con.step, Draws.steps, Try.f90, pickC, putC, closeC, hn, hk, hk2, hbase, Con.gen]
    refine pick_play hR hty (Le.refl _) hP (by omega) (by omega) ?_
    rintro cx3 v p3 mem3 hle3 hP3 c1 c2 ⟨y, rfl, y0, y1⟩
    have hn3 := hP3.lt
    obtain ⟨oc3, hk6⟩ := Play.blk hP3
    have hk7 := (List.getElem?_eq_some_iff.1 hk6).2
    obtain hy | hy | hy | hy | hy | hy | hy | hy | hy | hy | hy : y = 0 ∨ y = 1 ∨ y = 2 ∨ y = 3 ∨ y = 4 ∨ y = 5 ∨ y = 6 ∨ y = 7 ∨ y = 8 ∨ y = 9 ∨ y = 10 := by omega
    · by_cases hc : s.bits < 16
      · have hq := eq_true hc
        have hw := (wrap_i64 (x := s.bits + 1) (by omega) (by omega))
        simp (maxSteps := 4000000) -dsimp [-List.all_eq_true, -Array.all_eq_true, -Bool.exists_bool, -Bool.forall_bool, vcsE1, vcsE2, vcsE3, vcsE4, vcsE5, vcsE6, vcsE7, vcsE8, vcsE9, vcsE10, vcsE11, vcsE12, vcsE13, vcsE14, vcsE15, vcsE16, vcsE17, vcsE18, vcsE19, Sx.get, Sx.look, Sx.put, pureFn, findOrd, unF, dstOk, isFloatT, endVC, resFn, packC, newFn, storeFn, buildFn, undef, known, aggT, cellsC, Value.cells, findCon, Con.pure, Con.some, allV, partsV, partsC, fillL, Sx.exitTo, fAr, C.one, Value.oneCell', eqFn, eqFieldsFn, eqElemsFn, partFn, and_assoc, List.zipIdx, sliceFn, boundFn, AppV, CopyV, MakeSliceV, NewsV, GrowV, TextV, bytesL, notInt, typeAt, argAt, Con.read, Con.make, Con.ext, Con.rel, den, Con.extS, Con.draw, Con.step, Draws.steps, Try.f90, pickC, putC, closeC, hn3, hk6, hk7, hbase, hy, hq, hw, Con.gen]
        refine put_play hR hty (Le.refl _) hle3 hP3 (by omega) (by omega) ?_
        rintro cx4 x p4 mem4 hle4 hP4 - d1 d2
        have hn4 := hP4.lt
        obtain ⟨oc4, hk8⟩ := Play.blk hP4
        simp only at hk8
        have hk9 := (List.getElem?_eq_some_iff.1 hk8).2
        simp (maxSteps := 4000000) -dsimp [-List.all_eq_true, -Array.all_eq_true, -Bool.exists_bool, -Bool.forall_bool, vcsE1, vcsE2, vcsE3, vcsE4, vcsE5, vcsE6, vcsE7, vcsE8, vcsE9, vcsE10, vcsE11, vcsE12, vcsE13, vcsE14, vcsE15, vcsE16, vcsE17, vcsE18, vcsE19, Sx.get, Sx.look, Sx.put, pureFn, findOrd, unF, dstOk, isFloatT, endVC, resFn, packC, newFn, storeFn, buildFn, undef, known, aggT, cellsC, Value.cells, findCon, Con.pure, Con.some, allV, partsV, partsC, fillL, Sx.exitTo, fAr, C.one, Value.oneCell', eqFn, eqFieldsFn, eqElemsFn, partFn, and_assoc, List.zipIdx, sliceFn, boundFn, AppV, CopyV, MakeSliceV, NewsV, GrowV, TextV, bytesL, notInt, typeAt, argAt, Con.read, Con.make, Con.ext, Con.rel, den, Con.extS, Con.draw, Con.step, Draws.steps, Try.f90, pickC, putC, closeC, hn4, hk8, hk9, Con.gen, hw]
        exact EndK.all ⟨rfl, hle4, _, p4, (Play.upd' hP4 hk8 (s.bits + 1) s.forks _ _), by omega, by omega, by simp, by simp; try omega, by simp only; omega, by simp only; omega, by simp only; omega, by simp only; omega⟩
      · have hq := eq_false hc
        have hw := trivial
        simp (maxSteps := 4000000) -dsimp [-List.all_eq_true, -Array.all_eq_true, -Bool.exists_bool, -Bool.forall_bool, vcsE1, vcsE2, vcsE3, vcsE4, vcsE5, vcsE6, vcsE7, vcsE8, vcsE9, vcsE10, vcsE11, vcsE12, vcsE13, vcsE14, vcsE15, vcsE16, vcsE17, vcsE18, vcsE19, Sx.get, Sx.look, Sx.put, pureFn, findOrd, unF, dstOk, isFloatT, endVC, resFn, packC, newFn, storeFn, buildFn, undef, known, aggT, cellsC, Value.cells, findCon, Con.pure, Con.some, allV, partsV, partsC, fillL, Sx.exitTo, fAr, C.one, Value.oneCell', eqFn, eqFieldsFn, eqElemsFn, partFn, and_assoc, List.zipIdx, sliceFn, boundFn, AppV, CopyV, MakeSliceV, NewsV, GrowV, TextV, bytesL, notInt, typeAt, argAt, Con.read, Con.make, Con.ext, Con.rel, den, Con.extS, Con.draw, Con.step, Draws.steps, Try.f90, pickC, putC, closeC, hn3, hk6, hk7, hbase, hy, hq, hw, Con.gen]
        exact EndK.all ⟨rfl, hle3, s, p3, hP3, by omega, by omega, by omega, by omega, by omega, by omega, by omega, by omega⟩
    · by_cases hc : s.bits < 16
      · have hq := eq_true hc
        have hw := (wrap_i64 (x := s.bits + 1) (by omega) (by omega))
        simp (maxSteps := 4000000) -dsimp [-List.all_eq_true, -Array.all_eq_true, -Bool.exists_bool, -Bool.forall_bool, vcsE1, vcsE2, vcsE3, vcsE4, vcsE5, vcsE6, vcsE7, vcsE8, vcsE9, vcsE10, vcsE11, vcsE12, vcsE13, vcsE14, vcsE15, vcsE16, vcsE17, vcsE18, vcsE19, Sx.get, Sx.look, Sx.put, pureFn, findOrd, unF, dstOk, isFloatT, endVC, resFn, packC, newFn, storeFn, buildFn, undef, known, aggT, cellsC, Value.cells, findCon, Con.pure, Con.some, allV, partsV, partsC, fillL, Sx.exitTo, fAr, C.one, Value.oneCell', eqFn, eqFieldsFn, eqElemsFn, partFn, and_assoc, List.zipIdx, sliceFn, boundFn, AppV, CopyV, MakeSliceV, NewsV, GrowV, TextV, bytesL, notInt, typeAt, argAt, Con.read, Con.make, Con.ext, Con.rel, den, Con.extS, Con.draw, Con.step, Draws.steps, Try.f90, pickC, putC, closeC, hn3, hk6, hk7, hbase, hy, hq, hw, Con.gen]
        refine put_play hR hty (Le.refl _) hle3 hP3 (by omega) (by omega) ?_
        rintro cx4 x p4 mem4 hle4 hP4 - d1 d2
        have hn4 := hP4.lt
        obtain ⟨oc4, hk8⟩ := Play.blk hP4
        simp only at hk8
        have hk9 := (List.getElem?_eq_some_iff.1 hk8).2
        simp (maxSteps := 4000000) -dsimp [-List.all_eq_true, -Array.all_eq_true, -Bool.exists_bool, -Bool.forall_bool, vcsE1, vcsE2, vcsE3, vcsE4, vcsE5, vcsE6, vcsE7, vcsE8, vcsE9, vcsE10, vcsE11, vcsE12, vcsE13, vcsE14, vcsE15, vcsE16, vcsE17, vcsE18, vcsE19, Sx.get, Sx.look, Sx.put, pureFn, findOrd, unF, dstOk, isFloatT, endVC, resFn, packC, newFn, storeFn, buildFn, undef, known, aggT, cellsC, Value.cells, findCon, Con.pure, Con.some, allV, partsV, partsC, fillL, Sx.exitTo, fAr, C.one, Value.oneCell', eqFn, eqFieldsFn, eqElemsFn, partFn, and_assoc, List.zipIdx, sliceFn, boundFn, AppV, CopyV, MakeSliceV, NewsV, GrowV, TextV, bytesL, notInt, typeAt, argAt, Con.read, Con.make, Con.ext, Con.rel, den, Con.extS, Con.draw, Con.step, Draws.steps, Try.f90, pickC, putC, closeC, hn4, hk8, hk9, Con.gen, hw]
        exact EndK.all ⟨rfl, hle4, _, p4, (Play.upd' hP4 hk8 (s.bits + 1) s.forks _ _), by omega, by omega, by simp, by simp; try omega, by simp only; omega, by simp only; omega, by simp only; omega, by simp only; omega⟩
      · have hq := eq_false hc
        have hw := trivial
        simp (maxSteps := 4000000) -dsimp [-List.all_eq_true, -Array.all_eq_true, -Bool.exists_bool, -Bool.forall_bool, vcsE1, vcsE2, vcsE3, vcsE4, vcsE5, vcsE6, vcsE7, vcsE8, vcsE9, vcsE10, vcsE11, vcsE12, vcsE13, vcsE14, vcsE15, vcsE16, vcsE17, vcsE18, vcsE19, Sx.get, Sx.look, Sx.put, pureFn, findOrd, unF, dstOk, isFloatT, endVC, resFn, packC, newFn, storeFn, buildFn, undef, known, aggT, cellsC, Value.cells, findCon, Con.pure, Con.some, allV, partsV, partsC, fillL, Sx.exitTo, fAr, C.one, Value.oneCell', eqFn, eqFieldsFn, eqElemsFn, partFn, and_assoc, List.zipIdx, sliceFn, boundFn, AppV, CopyV, MakeSliceV, NewsV, GrowV, TextV, bytesL, notInt, typeAt, argAt, Con.read, Con.make, Con.ext, Con.rel, den, Con.extS, Con.draw, Con.step, Draws.steps, Try.f90, pickC, putC, closeC, hn3, hk6, hk7, hbase, hy, hq, hw, Con.gen]
        exact EndK.all ⟨rfl, hle3, s, p3, hP3, by omega, by omega, by omega, by omega, by omega, by omega, by omega, by omega⟩
    · have hw := trivial
      simp (maxSteps := 4000000) -dsimp [-List.all_eq_true, -Array.all_eq_true, -Bool.exists_bool, -Bool.forall_bool, vcsE1, vcsE2, vcsE3, vcsE4, vcsE5, vcsE6, vcsE7, vcsE8, vcsE9, vcsE10, vcsE11, vcsE12, vcsE13, vcsE14, vcsE15, vcsE16, vcsE17, vcsE18, vcsE19, Sx.get, Sx.look, Sx.put, pureFn, findOrd, unF, dstOk, isFloatT, endVC, resFn, packC, newFn, storeFn, buildFn, undef, known, aggT, cellsC, Value.cells, findCon, Con.pure, Con.some, allV, partsV, partsC, fillL, Sx.exitTo, fAr, C.one, Value.oneCell', eqFn, eqFieldsFn, eqElemsFn, partFn, and_assoc, List.zipIdx, sliceFn, boundFn, AppV, CopyV, MakeSliceV, NewsV, GrowV, TextV, bytesL, notInt, typeAt, argAt, Con.read, Con.make, Con.ext, Con.rel, den, Con.extS, Con.draw, Con.step, Draws.steps, Try.f90, pickC, putC, closeC, hn3, hk6, hk7, hbase, hy, hw, Con.gen]
      refine put_play hR hty (Le.refl _) hle3 hP3 (by omega) (by omega) ?_
      rintro cx4 x p4 mem4 hle4 hP4 - d1 d2
      have hn4 := hP4.lt
      obtain ⟨oc4, hk8⟩ := Play.blk hP4
      simp only at hk8
      have hk9 := (List.getElem?_eq_some_iff.1 hk8).2
      simp (maxSteps := 4000000) -dsimp [-List.all_eq_true, -Array.all_eq_true, -Bool.exists_bool, -Bool.forall_bool, vcsE1, vcsE2, vcsE3, vcsE4, vcsE5, vcsE6, vcsE7, vcsE8, vcsE9, vcsE10, vcsE11, vcsE12, vcsE13, vcsE14, vcsE15, vcsE16, vcsE17, vcsE18, vcsE19, Sx.get, Sx.look, Sx.put, pureFn, findOrd, unF, dstOk, isFloatT, endVC, resFn, packC, newFn, storeFn, buildFn, undef, known, aggT, cellsC, Value.cells, findCon, Con.pure, Con.some, allV, partsV, partsC, fillL, Sx.exitTo, fAr, C.one, Value.oneCell', eqFn, eqFieldsFn, eqElemsFn, partFn, and_assoc, List.zipIdx, sliceFn, boundFn, AppV, CopyV, MakeSliceV, NewsV, GrowV, TextV, bytesL, notInt, typeAt, argAt, Con.read, Con.make, Con.ext, Con.rel, den, Con.extS, Con.draw, Con.step, Draws.steps, Try.f90, pickC, putC, closeC, hn4, hk8, hk9, Con.gen, hw]
      exact EndK.all ⟨rfl, hle4, _, p4, hP4, by omega, by omega, by simp, by simp; try omega, by simp only; omega, by simp only; omega, by simp only; omega, by simp only; omega⟩
    · have hw := trivial
      simp (maxSteps := 4000000) -dsimp [-List.all_eq_true, -Array.all_eq_true, -Bool.exists_bool, -Bool.forall_bool, vcsE1, vcsE2, vcsE3, vcsE4, vcsE5, vcsE6, vcsE7, vcsE8, vcsE9, vcsE10, vcsE11, vcsE12, vcsE13, vcsE14, vcsE15, vcsE16, vcsE17, vcsE18, vcsE19, Sx.get, Sx.look, Sx.put, pureFn, findOrd, unF, dstOk, isFloatT, endVC, resFn, packC, newFn, storeFn, buildFn, undef, known, aggT, cellsC, Value.cells, findCon, Con.pure, Con.some, allV, partsV, partsC, fillL, Sx.exitTo, fAr, C.one, Value.oneCell', eqFn, eqFieldsFn, eqElemsFn, partFn, and_assoc, List.zipIdx, sliceFn, boundFn, AppV, CopyV, MakeSliceV, NewsV, GrowV, TextV, bytesL, notInt, typeAt, argAt, Con.read, Con.make, Con.ext, Con.rel, den, Con.extS, Con.draw, Con.step, Draws.steps, Try.f90, pickC, putC, closeC, hn3, hk6, hk7, hbase, hy, hw, Con.gen]
      refine put_play hR hty (Le.refl _) hle3 hP3 (by omega) (by omega) ?_
      rintro cx4 x p4 mem4 hle4 hP4 - d1 d2
      have hn4 := hP4.lt
      obtain ⟨oc4, hk8⟩ := Play.blk hP4
      simp only at hk8
      have hk9 := (List.getElem?_eq_some_iff.1 hk8).2
      simp (maxSteps := 4000000) -dsimp [-List.all_eq_true, -Array.all_eq_true, -Bool.exists_bool, -Bool.forall_bool, vcsE1, vcsE2, vcsE3, vcsE4, vcsE5, vcsE6, vcsE7, vcsE8, vcsE9, vcsE10, vcsE11, vcsE12, vcsE13, vcsE14, vcsE15, vcsE16, vcsE17, vcsE18, vcsE19, Sx.get, Sx.look, Sx.put, pureFn, findOrd, unF, dstOk, isFloatT, endVC, resFn, packC, newFn, storeFn, buildFn, undef, known, aggT, cellsC, Value.cells, findCon, Con.pure, Con.some, allV, partsV, partsC, fillL, Sx.exitTo, fAr, C.one, Value.oneCell', eqFn, eqFieldsFn, eqElemsFn, partFn, and_assoc, List.zipIdx, sliceFn, boundFn, AppV, CopyV, MakeSliceV, NewsV, GrowV, TextV, bytesL, notInt, typeAt, argAt, Con.read, Con.make, Con.ext, Con.rel, den, Con.extS, Con.draw, Con.step, Draws.steps, Try.f90, pickC, putC, closeC, hn4, hk8, hk9, Con.gen, hw]
      exact EndK.all ⟨rfl, hle4, _, p4, hP4, by omega, by omega, by simp, by simp; try omega, by simp only; omega, by simp only; omega, by simp only; omega, by simp only; omega⟩
    · by_cases hc : 2 ≤ s.bits
      · have hq := eq_true hc
        have hw := trivial
        simp (maxSteps := 4000000) -dsimp [-List.all_eq_true, -Array.all_eq_true, -Bool.exists_bool, -Bool.forall_bool, vcsE1, vcsE2, vcsE3, vcsE4, vcsE5, vcsE6, vcsE7, vcsE8, vcsE9, vcsE10, vcsE11, vcsE12, vcsE13, vcsE14, vcsE15, vcsE16, vcsE17, vcsE18, vcsE19, Sx.get, Sx.look, Sx.put, pureFn, findOrd, unF, dstOk, isFloatT, endVC, resFn, packC, newFn, storeFn, buildFn, undef, known, aggT, cellsC, Value.cells, findCon, Con.pure, Con.some, allV, partsV, partsC, fillL, Sx.exitTo, fAr, C.one, Value.oneCell', eqFn, eqFieldsFn, eqElemsFn, partFn, and_assoc, List.zipIdx, sliceFn, boundFn, AppV, CopyV, MakeSliceV, NewsV, GrowV, TextV, bytesL, notInt, typeAt, argAt, Con.read, Con.make, Con.ext, Con.rel, den, Con.extS, Con.draw, Con.step, Draws.steps, Try.f90, pickC, putC, closeC, hn3, hk6, hk7, hbase, hy, hq, hw, Con.gen]
        refine put_play hR hty (Le.refl _) hle3 hP3 (by omega) (by omega) ?_
        rintro cx4 x p4 mem4 hle4 hP4 - d1 d2
        have hn4 := hP4.lt
        obtain ⟨oc4, hk8⟩ := Play.blk hP4
        simp only at hk8
        have hk9 := (List.getElem?_eq_some_iff.1 hk8).2
        simp (maxSteps := 4000000) -dsimp [-List.all_eq_true, -Array.all_eq_true, -Bool.exists_bool, -Bool.forall_bool, vcsE1, vcsE2, vcsE3, vcsE4, vcsE5, vcsE6, vcsE7, vcsE8, vcsE9, vcsE10, vcsE11, vcsE12, vcsE13, vcsE14, vcsE15, vcsE16, vcsE17, vcsE18, vcsE19, Sx.get, Sx.look, Sx.put, pureFn, findOrd, unF, dstOk, isFloatT, endVC, resFn, packC, newFn, storeFn, buildFn, undef, known, aggT, cellsC, Value.cells, findCon, Con.pure, Con.some, allV, partsV, partsC, fillL, Sx.exitTo, fAr, C.one, Value.oneCell', eqFn, eqFieldsFn, eqElemsFn, partFn, and_assoc, List.zipIdx, sliceFn, boundFn, AppV, CopyV, MakeSliceV, NewsV, GrowV, TextV, bytesL, notInt, typeAt, argAt, Con.read, Con.make, Con.ext, Con.rel, den, Con.extS, Con.draw, Con.step, Draws.steps, Try.f90, pickC, putC, closeC, hn4, hk8, hk9, Con.gen, hw]
        exact EndK.all ⟨rfl, hle4, _, p4, hP4, by omega, by omega, by simp, by simp; try omega, by simp only; omega, by simp only; omega, by simp only; omega, by simp only; omega⟩
      · have hq := eq_false hc
        have hw := trivial
        simp (maxSteps := 4000000) -dsimp [-List.all_eq_true, -Array.all_eq_true, -Bool.exists_bool, -Bool.forall_bool, vcsE1, vcsE2, vcsE3, vcsE4, vcsE5, vcsE6, vcsE7, vcsE8, vcsE9, vcsE10, vcsE11, vcsE12, vcsE13, vcsE14, vcsE15, vcsE16, vcsE17, vcsE18, vcsE19, Sx.get, Sx.look, Sx.put, pureFn, findOrd, unF, dstOk, isFloatT, endVC, resFn, packC, newFn, storeFn, buildFn, undef, known, aggT, cellsC, Value.cells, findCon, Con.pure, Con.some, allV, partsV, partsC, fillL, Sx.exitTo, fAr, C.one, Value.oneCell', eqFn, eqFieldsFn, eqElemsFn, partFn, and_assoc, List.zipIdx, sliceFn, boundFn, AppV, CopyV, MakeSliceV, NewsV, GrowV, TextV, bytesL, notInt, typeAt, argAt, Con.read, Con.make, Con.ext, Con.rel, den, Con.extS, Con.draw, Con.step, Draws.steps, Try.f90, pickC, putC, closeC, hn3, hk6, hk7, hbase, hy, hq, hw, Con.gen]
        exact EndK.all ⟨rfl, hle3, s, p3, hP3, by omega, by omega, by omega, by omega, by omega, by omega, by omega, by omega⟩
    · by_cases hc : 2 ≤ s.bits
      · have hq := eq_true hc
        have hw := trivial
        simp (maxSteps := 4000000) -dsimp [-List.all_eq_true, -Array.all_eq_true, -Bool.exists_bool, -Bool.forall_bool, vcsE1, vcsE2, vcsE3, vcsE4, vcsE5, vcsE6, vcsE7, vcsE8, vcsE9, vcsE10, vcsE11, vcsE12, vcsE13, vcsE14, vcsE15, vcsE16, vcsE17, vcsE18, vcsE19, Sx.get, Sx.look, Sx.put, pureFn, findOrd, unF, dstOk, isFloatT, endVC, resFn, packC, newFn, storeFn, buildFn, undef, known, aggT, cellsC, Value.cells, findCon, Con.pure, Con.some, allV, partsV, partsC, fillL, Sx.exitTo, fAr, C.one, Value.oneCell', eqFn, eqFieldsFn, eqElemsFn, partFn, and_assoc, List.zipIdx, sliceFn, boundFn, AppV, CopyV, MakeSliceV, NewsV, GrowV, TextV, bytesL, notInt, typeAt, argAt, Con.read, Con.make, Con.ext, Con.rel, den, Con.extS, Con.draw, Con.step, Draws.steps, Try.f90, pickC, putC, closeC, hn3, hk6, hk7, hbase, hy, hq, hw, Con.gen]
        refine pick_play (hR.on hle3.fact (Nat.le_refl _)) hty (Le.refl _) hP3 (by omega) (by omega) ?_
        rintro cx5 v p5 mem5 hle5 hP5 e1 e2 ⟨z, rfl, z0, z1⟩
        have hn5 := hP5.lt
        obtain ⟨oc5, hk10⟩ := Play.blk hP5
        have hk11 := (List.getElem?_eq_some_iff.1 hk10).2
        by_cases hz : z = 0
        · simp (maxSteps := 4000000) -dsimp [-List.all_eq_true, -Array.all_eq_true, -Bool.exists_bool, -Bool.forall_bool, vcsE1, vcsE2, vcsE3, vcsE4, vcsE5, vcsE6, vcsE7, vcsE8, vcsE9, vcsE10, vcsE11, vcsE12, vcsE13, vcsE14, vcsE15, vcsE16, vcsE17, vcsE18, vcsE19, Sx.get, Sx.look, Sx.put, pureFn, findOrd, unF, dstOk, isFloatT, endVC, resFn, packC, newFn, storeFn, buildFn, undef, known, aggT, cellsC, Value.cells, findCon, Con.pure, Con.some, allV, partsV, partsC, fillL, Sx.exitTo, fAr, C.one, Value.oneCell', eqFn, eqFieldsFn, eqElemsFn, partFn, and_assoc, List.zipIdx, sliceFn, boundFn, AppV, CopyV, MakeSliceV, NewsV, GrowV, TextV, bytesL, notInt, typeAt, argAt, Con.read, Con.make, Con.ext, Con.rel, den, Con.extS, Con.draw, Con.step, Draws.steps, Try.f90, pickC, putC, closeC, hn5, hk10, hk11, hz, Con.gen]
          refine put_play hR hty (Le.refl _) (hle3.trans hle5) hP5 (by omega) (by omega) ?_
          rintro cx4 x p4 mem4 hle4 hP4 - d1 d2
          have hn4 := hP4.lt
          obtain ⟨oc4, hk8⟩ := Play.blk hP4
          simp only at hk8
          have hk9 := (List.getElem?_eq_some_iff.1 hk8).2
          simp (maxSteps := 4000000) -dsimp [-List.all_eq_true, -Array.all_eq_true, -Bool.exists_bool, -Bool.forall_bool, vcsE1, vcsE2, vcsE3, vcsE4, vcsE5, vcsE6, vcsE7, vcsE8, vcsE9, vcsE10, vcsE11, vcsE12, vcsE13, vcsE14, vcsE15, vcsE16, vcsE17, vcsE18, vcsE19, Sx.get, Sx.look, Sx.put, pureFn, findOrd, unF, dstOk, isFloatT, endVC, resFn, packC, newFn, storeFn, buildFn, undef, known, aggT, cellsC, Value.cells, findCon, Con.pure, Con.some, allV, partsV, partsC, fillL, Sx.exitTo, fAr, C.one, Value.oneCell', eqFn, eqFieldsFn, eqElemsFn, partFn, and_assoc, List.zipIdx, sliceFn, boundFn, AppV, CopyV, MakeSliceV, NewsV, GrowV, TextV, bytesL, notInt, typeAt, argAt, Con.read, Con.make, Con.ext, Con.rel, den, Con.extS, Con.draw, Con.step, Draws.steps, Try.f90, pickC, putC, closeC, hn4, hk8, hk9, Con.gen, hw]
          exact EndK.all ⟨rfl, hle4, _, p4, hP4, by omega, by omega, by simp, by simp; try omega, by simp only; omega, by simp only; omega, by simp only; omega, by simp only; omega⟩
        · simp (maxSteps := 4000000) -dsimp [-List.all_eq_true, -Array.all_eq_true, -Bool.exists_bool, -Bool.forall_bool, vcsE1, vcsE2, vcsE3, vcsE4, vcsE5, vcsE6, vcsE7, vcsE8, vcsE9, vcsE10, vcsE11, vcsE12, vcsE13, vcsE14, vcsE15, vcsE16, vcsE17, vcsE18, vcsE19, Sx.get, Sx.look, Sx.put, pureFn, findOrd, unF, dstOk, isFloatT, endVC, resFn, packC, newFn, storeFn, buildFn, undef, known, aggT, cellsC, Value.cells, findCon, Con.pure, Con.some, allV, partsV, partsC, fillL, Sx.exitTo, fAr, C.one, Value.oneCell', eqFn, eqFieldsFn, eqElemsFn, partFn, and_assoc, List.zipIdx, sliceFn, boundFn, AppV, CopyV, MakeSliceV, NewsV, GrowV, TextV, bytesL, notInt, typeAt, argAt, Con.read, Con.make, Con.ext, Con.rel, den, Con.extS, Con.draw, Con.step, Draws.steps, Try.f90, pickC, putC, closeC, hn5, hk10, hk11, hz, Con.gen]
          exact EndK.all ⟨rfl, hle3.trans hle5, s, p5, hP5, by omega, by omega, by omega, by omega, by omega, by omega, by omega, by omega⟩
      · have hq := eq_false hc
        have hw := trivial
        simp (maxSteps := 4000000) -dsimp [-List.all_eq_true, -Array.all_eq_true, -Bool.exists_bool, -Bool.forall_bool, vcsE1, vcsE2, vcsE3, vcsE4, vcsE5, vcsE6, vcsE7, vcsE8, vcsE9, vcsE10, vcsE11, vcsE12, vcsE13, vcsE14, vcsE15, vcsE16, vcsE17, vcsE18, vcsE19, Sx.get, Sx.look, Sx.put, pureFn, findOrd, unF, dstOk, isFloatT, endVC, resFn, packC, newFn, storeFn, buildFn, undef, known, aggT, cellsC, Value.cells, findCon, Con.pure, Con.some, allV, partsV, partsC, fillL, Sx.exitTo, fAr, C.one, Value.oneCell', eqFn, eqFieldsFn, eqElemsFn, partFn, and_assoc, List.zipIdx, sliceFn, boundFn, AppV, CopyV, MakeSliceV, NewsV, GrowV, TextV, bytesL, notInt, typeAt, argAt, Con.read, Con.make, Con.ext, Con.rel, den, Con.extS, Con.draw, Con.step, Draws.steps, Try.f90, pickC, putC, closeC, hn3, hk6, hk7, hbase, hy, hq, hw, Con.gen]
        exact EndK.all ⟨rfl, hle3, s, p3, hP3, by omega, by omega, by omega, by omega, by omega, by omega, by omega, by omega⟩
    · by_cases hc : 1 < s.bits
      · have hq := eq_true hc
        have hw := (wrap_i64 (x := s.bits - 1) (by omega) (by omega))
        simp (maxSteps := 4000000) -dsimp [-List.all_eq_true, -Array.all_eq_true, -Bool.exists_bool, -Bool.forall_bool, vcsE1, vcsE2, vcsE3, vcsE4, vcsE5, vcsE6, vcsE7, vcsE8, vcsE9, vcsE10, vcsE11, vcsE12, vcsE13, vcsE14, vcsE15, vcsE16, vcsE17, vcsE18, vcsE19, Sx.get, Sx.look, Sx.put, pureFn, findOrd, unF, dstOk, isFloatT, endVC, resFn, packC, newFn, storeFn, buildFn, undef, known, aggT, cellsC, Value.cells, findCon, Con.pure, Con.some, allV, partsV, partsC, fillL, Sx.exitTo, fAr, C.one, Value.oneCell', eqFn, eqFieldsFn, eqElemsFn, partFn, and_assoc, List.zipIdx, sliceFn, boundFn, AppV, CopyV, MakeSliceV, NewsV, GrowV, TextV, bytesL, notInt, typeAt, argAt, Con.read, Con.make, Con.ext, Con.rel, den, Con.extS, Con.draw, Con.step, Draws.steps, Try.f90, pickC, putC, closeC, hn3, hk6, hk7, hbase, hy, hq, hw, Con.gen]
        refine put_play hR hty (Le.refl _) hle3 hP3 (by omega) (by omega) ?_
        rintro cx4 x p4 mem4 hle4 hP4 - d1 d2
        have hn4 := hP4.lt
        obtain ⟨oc4, hk8⟩ := Play.blk hP4
        simp only at hk8
        have hk9 := (List.getElem?_eq_some_iff.1 hk8).2
        simp (maxSteps := 4000000) -dsimp [-List.all_eq_true, -Array.all_eq_true, -Bool.exists_bool, -Bool.forall_bool, vcsE1, vcsE2, vcsE3, vcsE4, vcsE5, vcsE6, vcsE7, vcsE8, vcsE9, vcsE10, vcsE11, vcsE12, vcsE13, vcsE14, vcsE15, vcsE16, vcsE17, vcsE18, vcsE19, Sx.get, Sx.look, Sx.put, pureFn, findOrd, unF, dstOk, isFloatT, endVC, resFn, packC, newFn, storeFn, buildFn, undef, known, aggT, cellsC, Value.cells, findCon, Con.pure, Con.some, allV, partsV, partsC, fillL, Sx.exitTo, fAr, C.one, Value.oneCell', eqFn, eqFieldsFn, eqElemsFn, partFn, and_assoc, List.zipIdx, sliceFn, boundFn, AppV, CopyV, MakeSliceV, NewsV, GrowV, TextV, bytesL, notInt, typeAt, argAt, Con.read, Con.make, Con.ext, Con.rel, den, Con.extS, Con.draw, Con.step, Draws.steps, Try.f90, pickC, putC, closeC, hn4, hk8, hk9, Con.gen, hw]
        exact EndK.all ⟨rfl, hle4, _, p4, (Play.upd' hP4 hk8 (s.bits - 1) s.forks _ _), by omega, by omega, by simp, by simp; try omega, by simp only; omega, by simp only; omega, by simp only; omega, by simp only; omega⟩
      · have hq := eq_false hc
        have hw := trivial
        simp (maxSteps := 4000000) -dsimp [-List.all_eq_true, -Array.all_eq_true, -Bool.exists_bool, -Bool.forall_bool, vcsE1, vcsE2, vcsE3, vcsE4, vcsE5, vcsE6, vcsE7, vcsE8, vcsE9, vcsE10, vcsE11, vcsE12, vcsE13, vcsE14, vcsE15, vcsE16, vcsE17, vcsE18, vcsE19, Sx.get, Sx.look, Sx.put, pureFn, findOrd, unF, dstOk, isFloatT, endVC, resFn, packC, newFn, storeFn, buildFn, undef, known, aggT, cellsC, Value.cells, findCon, Con.pure, Con.some, allV, partsV, partsC, fillL, Sx.exitTo, fAr, C.one, Value.oneCell', eqFn, eqFieldsFn, eqElemsFn, partFn, and_assoc, List.zipIdx, sliceFn, boundFn, AppV, CopyV, MakeSliceV, NewsV, GrowV, TextV, bytesL, notInt, typeAt, argAt, Con.read, Con.make, Con.ext, Con.rel, den, Con.extS, Con.draw, Con.step, Draws.steps, Try.f90, pickC, putC, closeC, hn3, hk6, hk7, hbase, hy, hq, hw, Con.gen]
        exact EndK.all ⟨rfl, hle3, s, p3, hP3, by omega, by omega, by omega, by omega, by omega, by omega, by omega, by omega⟩
    · by_cases hc : 2 < s.bits
      · have hq := eq_true hc
        have hw := (wrap_i64 (x := s.bits - 1) (by omega) (by omega))
        simp (maxSteps := 4000000) -dsimp [-List.all_eq_true, -Array.all_eq_true, -Bool.exists_bool, -Bool.forall_bool, vcsE1, vcsE2, vcsE3, vcsE4, vcsE5, vcsE6, vcsE7, vcsE8, vcsE9, vcsE10, vcsE11, vcsE12, vcsE13, vcsE14, vcsE15, vcsE16, vcsE17, vcsE18, vcsE19, Sx.get, Sx.look, Sx.put, pureFn, findOrd, unF, dstOk, isFloatT, endVC, resFn, packC, newFn, storeFn, buildFn, undef, known, aggT, cellsC, Value.cells, findCon, Con.pure, Con.some, allV, partsV, partsC, fillL, Sx.exitTo, fAr, C.one, Value.oneCell', eqFn, eqFieldsFn, eqElemsFn, partFn, and_assoc, List.zipIdx, sliceFn, boundFn, AppV, CopyV, MakeSliceV, NewsV, GrowV, TextV, bytesL, notInt, typeAt, argAt, Con.read, Con.make, Con.ext, Con.rel, den, Con.extS, Con.draw, Con.step, Draws.steps, Try.f90, pickC, putC, closeC, hn3, hk6, hk7, hbase, hy, hq, hw, Con.gen]
        refine put_play hR hty (Le.refl _) hle3 hP3 (by omega) (by omega) ?_
        rintro cx4 x p4 mem4 hle4 hP4 - d1 d2
        have hn4 := hP4.lt
        obtain ⟨oc4, hk8⟩ := Play.blk hP4
        simp only at hk8
        have hk9 := (List.getElem?_eq_some_iff.1 hk8).2
        simp (maxSteps := 4000000) -dsimp [-List.all_eq_true, -Array.all_eq_true, -Bool.exists_bool, -Bool.forall_bool, vcsE1, vcsE2, vcsE3, vcsE4, vcsE5, vcsE6, vcsE7, vcsE8, vcsE9, vcsE10, vcsE11, vcsE12, vcsE13, vcsE14, vcsE15, vcsE16, vcsE17, vcsE18, vcsE19, Sx.get, Sx.look, Sx.put, pureFn, findOrd, unF, dstOk, isFloatT, endVC, resFn, packC, newFn, storeFn, buildFn, undef, known, aggT, cellsC, Value.cells, findCon, Con.pure, Con.some, allV, partsV, partsC, fillL, Sx.exitTo, fAr, C.one, Value.oneCell', eqFn, eqFieldsFn, eqElemsFn, partFn, and_assoc, List.zipIdx, sliceFn, boundFn, AppV, CopyV, MakeSliceV, NewsV, GrowV, TextV, bytesL, notInt, typeAt, argAt, Con.read, Con.make, Con.ext, Con.rel, den, Con.extS, Con.draw, Con.step, Draws.steps, Try.f90, pickC, putC, closeC, hn4, hk8, hk9, Con.gen, hw]
        exact EndK.all ⟨rfl, hle4, _, p4, (Play.upd' hP4 hk8 (s.bits - 1) s.forks _ _), by omega, by omega, by simp, by simp; try omega, by simp only; omega, by simp only; omega, by simp only; omega, by simp only; omega⟩
      · have hq := eq_false hc
        have hw := trivial
        simp (maxSteps := 4000000) -dsimp [-List.all_eq_true, -Array.all_eq_true, -Bool.exists_bool, -Bool.forall_bool, vcsE1, vcsE2, vcsE3, vcsE4, vcsE5, vcsE6, vcsE7, vcsE8, vcsE9, vcsE10, vcsE11, vcsE12, vcsE13, vcsE14, vcsE15, vcsE16, vcsE17, vcsE18, vcsE19, Sx.get, Sx.look, Sx.put, pureFn, findOrd, unF, dstOk, isFloatT, endVC, resFn, packC, newFn, storeFn, buildFn, undef, known, aggT, cellsC, Value.cells, findCon, Con.pure, Con.some, allV, partsV, partsC, fillL, Sx.exitTo, fAr, C.one, Value.oneCell', eqFn, eqFieldsFn, eqElemsFn, partFn, and_assoc, List.zipIdx, sliceFn, boundFn, AppV, CopyV, MakeSliceV, NewsV, GrowV, TextV, bytesL, notInt, typeAt, argAt, Con.read, Con.make, Con.ext, Con.rel, den, Con.extS, Con.draw, Con.step, Draws.steps, Try.f90, pickC, putC, closeC, hn3, hk6, hk7, hbase, hy, hq, hw, Con.gen]
        exact EndK.all ⟨rfl, hle3, s, p3, hP3, by omega, by omega, by omega, by omega, by omega, by omega, by omega, by omega⟩
    · by_cases hc : s.bits = 1
      · have hq := eq_true hc
        have hw := trivial
        simp (maxSteps := 4000000) -dsimp [-List.all_eq_true, -Array.all_eq_true, -Bool.exists_bool, -Bool.forall_bool, vcsE1, vcsE2, vcsE3, vcsE4, vcsE5, vcsE6, vcsE7, vcsE8, vcsE9, vcsE10, vcsE11, vcsE12, vcsE13, vcsE14, vcsE15, vcsE16, vcsE17, vcsE18, vcsE19, Sx.get, Sx.look, Sx.put, pureFn, findOrd, unF, dstOk, isFloatT, endVC, resFn, packC, newFn, storeFn, buildFn, undef, known, aggT, cellsC, Value.cells, findCon, Con.pure, Con.some, allV, partsV, partsC, fillL, Sx.exitTo, fAr, C.one, Value.oneCell', eqFn, eqFieldsFn, eqElemsFn, partFn, and_assoc, List.zipIdx, sliceFn, boundFn, AppV, CopyV, MakeSliceV, NewsV, GrowV, TextV, bytesL, notInt, typeAt, argAt, Con.read, Con.make, Con.ext, Con.rel, den, Con.extS, Con.draw, Con.step, Draws.steps, Try.f90, pickC, putC, closeC, hn3, hk6, hk7, hbase, hy, hq, hw, Con.gen]
        refine put_play hR hty (Le.refl _) hle3 hP3 (by omega) (by omega) ?_
        rintro cx4 x p4 mem4 hle4 hP4 - d1 d2
        have hn4 := hP4.lt
        obtain ⟨oc4, hk8⟩ := Play.blk hP4
        simp only at hk8
        have hk9 := (List.getElem?_eq_some_iff.1 hk8).2
        simp (maxSteps := 4000000) -dsimp [-List.all_eq_true, -Array.all_eq_true, -Bool.exists_bool, -Bool.forall_bool, vcsE1, vcsE2, vcsE3, vcsE4, vcsE5, vcsE6, vcsE7, vcsE8, vcsE9, vcsE10, vcsE11, vcsE12, vcsE13, vcsE14, vcsE15, vcsE16, vcsE17, vcsE18, vcsE19, Sx.get, Sx.look, Sx.put, pureFn, findOrd, unF, dstOk, isFloatT, endVC, resFn, packC, newFn, storeFn, buildFn, undef, known, aggT, cellsC, Value.cells, findCon, Con.pure, Con.some, allV, partsV, partsC, fillL, Sx.exitTo, fAr, C.one, Value.oneCell', eqFn, eqFieldsFn, eqElemsFn, partFn, and_assoc, List.zipIdx, sliceFn, boundFn, AppV, CopyV, MakeSliceV, NewsV, GrowV, TextV, bytesL, notInt, typeAt, argAt, Con.read, Con.make, Con.ext, Con.rel, den, Con.extS, Con.draw, Con.step, Draws.steps, Try.f90, pickC, putC, closeC, hn4, hk8, hk9, Con.gen, hw]
        exact EndK.all ⟨rfl, hle4, _, p4, hP4, by omega, by omega, by simp, by simp; try omega, by simp only; omega, by simp only; omega, by simp only; omega, by simp only; omega⟩
      · have hq := eq_false hc
        have hw := trivial
        simp (maxSteps := 4000000) -dsimp [-List.all_eq_true, -Array.all_eq_true, -Bool.exists_bool, -Bool.forall_bool, vcsE1, vcsE2, vcsE3, vcsE4, vcsE5, vcsE6, vcsE7, vcsE8, vcsE9, vcsE10, vcsE11, vcsE12, vcsE13, vcsE14, vcsE15, vcsE16, vcsE17, vcsE18, vcsE19, Sx.get, Sx.look, Sx.put, pureFn, findOrd, unF, dstOk, isFloatT, endVC, resFn, packC, newFn, storeFn, buildFn, undef, known, aggT, cellsC, Value.cells, findCon, Con.pure, Con.some, allV, partsV, partsC, fillL, Sx.exitTo, fAr, C.one, Value.oneCell', eqFn, eqFieldsFn, eqElemsFn, partFn, and_assoc, List.zipIdx, sliceFn, boundFn, AppV, CopyV, MakeSliceV, NewsV, GrowV, TextV, bytesL, notInt, typeAt, argAt, Con.read, Con.make, Con.ext, Con.rel, den, Con.extS, Con.draw, Con.step, Draws.steps, Try.f90, pickC, putC, closeC, hn3, hk6, hk7, hbase, hy, hq, hw, Con.gen]
        exact EndK.all ⟨rfl, hle3, s, p3, hP3, by omega, by omega, by omega, by omega, by omega, by omega, by omega, by omega⟩
    · by_cases hc : s.bits = 1
      · have hq := eq_true hc
        by_cases hd : s.forks < 8
        · have hr := eq_true hd
          have hw := (wrap_i64 (x := s.forks + 1) (by omega) (by omega))
          simp (maxSteps := 4000000) -dsimp [-List.all_eq_true, -Array.all_eq_true, -Bool.exists_bool, -Bool.forall_bool, vcsE1, vcsE2, vcsE3, vcsE4, vcsE5, vcsE6, vcsE7, vcsE8, vcsE9, vcsE10, vcsE11, vcsE12, vcsE13, vcsE14, vcsE15, vcsE16, vcsE17, vcsE18, vcsE19, Sx.get, Sx.look, Sx.put, pureFn, findOrd, unF, dstOk, isFloatT, endVC, resFn, packC, newFn, storeFn, buildFn, undef, known, aggT, cellsC, Value.cells, findCon, Con.pure, Con.some, allV, partsV, partsC, fillL, Sx.exitTo, fAr, C.one, Value.oneCell', eqFn, eqFieldsFn, eqElemsFn, partFn, and_assoc, List.zipIdx, sliceFn, boundFn, AppV, CopyV, MakeSliceV, NewsV, GrowV, TextV, bytesL, notInt, typeAt, argAt, Con.read, Con.make, Con.ext, Con.rel, den, Con.extS, Con.draw, Con.step, Draws.steps, Try.f90, pickC, putC, closeC, hn3, hk6, hk7, hbase, hy, hq, hr, hw, Con.gen]
          refine put_play hR hty (Le.refl _) hle3 hP3 (by omega) (by omega) ?_
          rintro cx4 x p4 mem4 hle4 hP4 - d1 d2
          have hn4 := hP4.lt
          obtain ⟨oc4, hk8⟩ := Play.blk hP4
          simp only at hk8
          have hk9 := (List.getElem?_eq_some_iff.1 hk8).2
          simp (maxSteps := 4000000) -dsimp [-List.all_eq_true, -Array.all_eq_true, -Bool.exists_bool, -Bool.forall_bool, vcsE1, vcsE2, vcsE3, vcsE4, vcsE5, vcsE6, vcsE7, vcsE8, vcsE9, vcsE10, vcsE11, vcsE12, vcsE13, vcsE14, vcsE15, vcsE16, vcsE17, vcsE18, vcsE19, Sx.get, Sx.look, Sx.put, pureFn, findOrd, unF, dstOk, isFloatT, endVC, resFn, packC, newFn, storeFn, buildFn, undef, known, aggT, cellsC, Value.cells, findCon, Con.pure, Con.some, allV, partsV, partsC, fillL, Sx.exitTo, fAr, C.one, Value.oneCell', eqFn, eqFieldsFn, eqElemsFn, partFn, and_assoc, List.zipIdx, sliceFn, boundFn, AppV, CopyV, MakeSliceV, NewsV, GrowV, TextV, bytesL, notInt, typeAt, argAt, Con.read, Con.make, Con.ext, Con.rel, den, Con.extS, Con.draw, Con.step, Draws.steps, Try.f90, pickC, putC, closeC, hn4, hk8, hk9, Con.gen, hw]
          exact EndK.all ⟨rfl, hle4, _, p4, (Play.upd' hP4 hk8 s.bits (s.forks + 1) _ _), by omega, by omega, by simp, by simp; try omega, by simp only; omega, by simp only; omega, by simp only; omega, by simp only; omega⟩
        · have hr := eq_false hd
          have hw := trivial
          simp (maxSteps := 4000000) -dsimp [-List.all_eq_true, -Array.all_eq_true, -Bool.exists_bool, -Bool.forall_bool, vcsE1, vcsE2, vcsE3, vcsE4, vcsE5, vcsE6, vcsE7, vcsE8, vcsE9, vcsE10, vcsE11, vcsE12, vcsE13, vcsE14, vcsE15, vcsE16, vcsE17, vcsE18, vcsE19, Sx.get, Sx.look, Sx.put, pureFn, findOrd, unF, dstOk, isFloatT, endVC, resFn, packC, newFn, storeFn, buildFn, undef, known, aggT, cellsC, Value.cells, findCon, Con.pure, Con.some, allV, partsV, partsC, fillL, Sx.exitTo, fAr, C.one, Value.oneCell', eqFn, eqFieldsFn, eqElemsFn, partFn, and_assoc, List.zipIdx, sliceFn, boundFn, AppV, CopyV, MakeSliceV, NewsV, GrowV, TextV, bytesL, notInt, typeAt, argAt, Con.read, Con.make, Con.ext, Con.rel, den, Con.extS, Con.draw, Con.step, Draws.steps, Try.f90, pickC, putC, closeC, hn3, hk6, hk7, hbase, hy, hq, hr, hw, Con.gen]
          exact EndK.all ⟨rfl, hle3, s, p3, hP3, by omega, by omega, by omega, by omega, by omega, by omega, by omega, by omega⟩
      · have hq := eq_false hc
        have hw := trivial
        simp (maxSteps := 4000000) -dsimp [-List.all_eq_true, -Array.all_eq_true, -Bool.exists_bool, -Bool.forall_bool, vcsE1, vcsE2, vcsE3, vcsE4, vcsE5, vcsE6, vcsE7, vcsE8, vcsE9, vcsE10, vcsE11, vcsE12, vcsE13, vcsE14, vcsE15, vcsE16, vcsE17, vcsE18, vcsE19, Sx.get, Sx.look, Sx.put, pureFn, findOrd, unF, dstOk, isFloatT, endVC, resFn, packC, newFn, storeFn, buildFn, undef, known, aggT, cellsC, Value.cells, findCon, Con.pure, Con.some, allV, partsV, partsC, fillL, Sx.exitTo, fAr, C.one, Value.oneCell', eqFn, eqFieldsFn, eqElemsFn, partFn, and_assoc, List.zipIdx, sliceFn, boundFn, AppV, CopyV, MakeSliceV, NewsV, GrowV, TextV, bytesL, notInt, typeAt, argAt, Con.read, Con.make, Con.ext, Con.rel, den, Con.extS, Con.draw, Con.step, Draws.steps, Try.f90, pickC, putC, closeC, hn3, hk6, hk7, hbase, hy, hq, hw, Con.gen]
        exact EndK.all ⟨rfl, hle3, s, p3, hP3, by omega, by omega, by omega, by omega, by omega, by omega, by omega, by omega⟩
    · by_cases hc : 0 < s.forks
      · have hq := eq_true hc
        simp (maxSteps := 4000000) -dsimp [-List.all_eq_true, -Array.all_eq_true, -Bool.exists_bool, -Bool.forall_bool, vcsE1, vcsE2, vcsE3, vcsE4, vcsE5, vcsE6, vcsE7, vcsE8, vcsE9, vcsE10, vcsE11, vcsE12, vcsE13, vcsE14, vcsE15, vcsE16, vcsE17, vcsE18, vcsE19, Sx.get, Sx.look, Sx.put, pureFn, findOrd, unF, dstOk, isFloatT, endVC, resFn, packC, newFn, storeFn, buildFn, undef, known, aggT, cellsC, Value.cells, findCon, Con.pure, Con.some, allV, partsV, partsC, fillL, Sx.exitTo, fAr, C.one, Value.oneCell', eqFn, eqFieldsFn, eqElemsFn, partFn, and_assoc, List.zipIdx, sliceFn, boundFn, AppV, CopyV, MakeSliceV, NewsV, GrowV, TextV, bytesL, notInt, typeAt, argAt, Con.read, Con.make, Con.ext, Con.rel, den, Con.extS, Con.draw, Con.step, Draws.steps, Try.f90, pickC, putC, closeC, hn3, hk6, hk7, hbase, hy, hq, Con.gen]
        refine close_play hR hty (Le.refl _) hle3 hP3 (by omega) (by omega) (by omega) ?_
        rintro cx4 s4 p4 mem4 hle4 hP4 d1 d2 d3 d4 d5 d6
        have hn4 := hP4.lt
        obtain ⟨oc4, hk8⟩ := Play.blk hP4
        have hk9 := (List.getElem?_eq_some_iff.1 hk8).2
        simp (maxSteps := 4000000) -dsimp [-List.all_eq_true, -Array.all_eq_true, -Bool.exists_bool, -Bool.forall_bool, vcsE1, vcsE2, vcsE3, vcsE4, vcsE5, vcsE6, vcsE7, vcsE8, vcsE9, vcsE10, vcsE11, vcsE12, vcsE13, vcsE14, vcsE15, vcsE16, vcsE17, vcsE18, vcsE19, Sx.get, Sx.look, Sx.put, pureFn, findOrd, unF, dstOk, isFloatT, endVC, resFn, packC, newFn, storeFn, buildFn, undef, known, aggT, cellsC, Value.cells, findCon, Con.pure, Con.some, allV, partsV, partsC, fillL, Sx.exitTo, fAr, C.one, Value.oneCell', eqFn, eqFieldsFn, eqElemsFn, partFn, and_assoc, List.zipIdx, sliceFn, boundFn, AppV, CopyV, MakeSliceV, NewsV, GrowV, TextV, bytesL, notInt, typeAt, argAt, Con.read, Con.make, Con.ext, Con.rel, den, Con.extS, Con.draw, Con.step, Draws.steps, Try.f90, pickC, putC, closeC, hn4, hk8, hk9, Con.gen]
        refine pick_play (hR.on hle4.fact (Nat.le_refl _)) hty (Le.refl _) hP4 (by omega) (by omega) ?_
        rintro cx5 v p5 mem5 hle5 hP5 e1 e2 ⟨z, rfl, z0, z1⟩
        have hn5 := hP5.lt
        obtain ⟨oc5, hk10⟩ := Play.blk hP5
        have hk11 := (List.getElem?_eq_some_iff.1 hk10).2
        have hw8 : IntKind.i64.wrap (8 + z) = 8 + z := wrap_i64 (by omega) (by omega)
        simp (maxSteps := 4000000) -dsimp [-List.all_eq_true, -Array.all_eq_true, -Bool.exists_bool, -Bool.forall_bool, vcsE1, vcsE2, vcsE3, vcsE4, vcsE5, vcsE6, vcsE7, vcsE8, vcsE9, vcsE10, vcsE11, vcsE12, vcsE13, vcsE14, vcsE15, vcsE16, vcsE17, vcsE18, vcsE19, Sx.get, Sx.look, Sx.put, pureFn, findOrd, unF, dstOk, isFloatT, endVC, resFn, packC, newFn, storeFn, buildFn, undef, known, aggT, cellsC, Value.cells, findCon, Con.pure, Con.some, allV, partsV, partsC, fillL, Sx.exitTo, fAr, C.one, Value.oneCell', eqFn, eqFieldsFn, eqElemsFn, partFn, and_assoc, List.zipIdx, sliceFn, boundFn, AppV, CopyV, MakeSliceV, NewsV, GrowV, TextV, bytesL, notInt, typeAt, argAt, Con.read, Con.make, Con.ext, Con.rel, den, Con.extS, Con.draw, Con.step, Draws.steps, Try.f90, pickC, putC, closeC, hn5, hk10, hk11, hw8, Con.gen]
        refine put_play hR hty (Le.refl _) (hle4.trans hle5) hP5 (by omega) (by omega) ?_
        rintro cx6 x p6 mem6 hle6 hP6 hxc f1 f2
        have hn6 := hP6.lt
        obtain ⟨oc6, hk12, ho6⟩ := hP6.ex
        unfold playBlk at hk12
        simp only at hk12 ho6
        have hk13 := (List.getElem?_eq_some_iff.1 hk12).2
        obtain ⟨ko, bo, cap, rows, pad, rfl, hko, hm6, hlast, hc1, hc2, hlen6⟩ := OutRow.last ho6
        rw [hxc] at hlast
        have hkl6 := (List.getElem?_eq_some_iff.1 hm6).1
        have hm7 := (List.getElem?_eq_some_iff.1 hm6).2
        have hll := (List.getElem?_eq_some_iff.1 hlast).1
        have hlg := (List.getElem?_eq_some_iff.1 hlast).2
        have hw6 : IntKind.i64.wrap ((s4.xs.length : Int) + 1 - 1) = s4.xs.length := by rw [wrap_i64 (by omega) (by omega)]; omega
        have hw7 : IntKind.i64.wrap (s4.xs.length : Int) = s4.xs.length := wrap_i64 (by omega) (by omega)
        have hlt6 : (s4.xs.length : Int) < (s4.xs.length : Int) + 1 := by omega
        have hwf : IntKind.i64.wrap (s4.forks - 1) = s4.forks - 1 := wrap_i64 (by omega) (by omega)
        by_cases hz : z = 1
        · simp (maxSteps := 4000000) -dsimp [-List.all_eq_true, -Array.all_eq_true, -Bool.exists_bool, -Bool.forall_bool, vcsE1, vcsE2, vcsE3, vcsE4, vcsE5, vcsE6, vcsE7, vcsE8, vcsE9, vcsE10, vcsE11, vcsE12, vcsE13, vcsE14, vcsE15, vcsE16, vcsE17, vcsE18, vcsE19, Sx.get, Sx.look, Sx.put, pureFn, findOrd, unF, dstOk, isFloatT, endVC, resFn, packC, newFn, storeFn, buildFn, undef, known, aggT, cellsC, Value.cells, findCon, Con.pure, Con.some, allV, partsV, partsC, fillL, Sx.exitTo, fAr, C.one, Value.oneCell', eqFn, eqFieldsFn, eqElemsFn, partFn, and_assoc, List.zipIdx, sliceFn, boundFn, AppV, CopyV, MakeSliceV, NewsV, GrowV, TextV, bytesL, notInt, typeAt, argAt, Con.read, Con.make, Con.ext, Con.rel, den, Con.extS, Con.draw, Con.step, Draws.steps, Try.f90, pickC, putC, closeC, hn6, hk12, hk13, hm6, hm7, hkl6, hlast, hll, hlg, hw6, hw7, hlt6, hwf, hz, Con.gen]
          subst hz
          exact EndK.all ⟨rfl, hle6, _, p6, (Play.upd' hP6 hk12 s4.bits (s4.forks - 1) _ _), by omega, by omega, by simp; omega, by simp; omega, by simp only; omega, by simp only; omega, by simp only; omega, by simp only; omega⟩
        · simp (maxSteps := 4000000) -dsimp [-List.all_eq_true, -Array.all_eq_true, -Bool.exists_bool, -Bool.forall_bool, vcsE1, vcsE2, vcsE3, vcsE4, vcsE5, vcsE6, vcsE7, vcsE8, vcsE9, vcsE10, vcsE11, vcsE12, vcsE13, vcsE14, vcsE15, vcsE16, vcsE17, vcsE18, vcsE19, Sx.get, Sx.look, Sx.put, pureFn, findOrd, unF, dstOk, isFloatT, endVC, resFn, packC, newFn, storeFn, buildFn, undef, known, aggT, cellsC, Value.cells, findCon, Con.pure, Con.some, allV, partsV, partsC, fillL, Sx.exitTo, fAr, C.one, Value.oneCell', eqFn, eqFieldsFn, eqElemsFn, partFn, and_assoc, List.zipIdx, sliceFn, boundFn, AppV, CopyV, MakeSliceV, NewsV, GrowV, TextV, bytesL, notInt, typeAt, argAt, Con.read, Con.make, Con.ext, Con.rel, den, Con.extS, Con.draw, Con.step, Draws.steps, Try.f90, pickC, putC, closeC, hn6, hk12, hk13, hm6, hm7, hkl6, hlast, hll, hlg, hw6, hw7, hlt6, hwf, hz, Con.gen]
          refine ⟨fun h9 => absurd h9 (by omega), fun _ => ?_⟩
          exact EndK.all ⟨rfl, hle6, _, p6, hP6, by omega, by omega, by simp; omega, by simp; omega, by simp only; omega, by simp only; omega, by simp only; omega, by simp only; omega⟩
      · have hq := eq_false hc
        simp (maxSteps := 4000000) -dsimp [-List.all_eq_true, -Array.all_eq_true, -Bool.exists_bool, -Bool.forall_bool, vcsE1, vcsE2, vcsE3, vcsE4, vcsE5, vcsE6, vcsE7, vcsE8, vcsE9, vcsE10, vcsE11, vcsE12, vcsE13, vcsE14, vcsE15, vcsE16, vcsE17, vcsE18, vcsE19, Sx.get, Sx.look, Sx.put, pureFn, findOrd, unF, dstOk, isFloatT, endVC, resFn, packC, newFn, storeFn, buildFn, undef, known, aggT, cellsC, Value.cells, findCon, Con.pure, Con.some, allV, partsV, partsC, fillL, Sx.exitTo, fAr, C.one, Value.oneCell', eqFn, eqFieldsFn, eqElemsFn, partFn, and_assoc, List.zipIdx, sliceFn, boundFn, AppV, CopyV, MakeSliceV, NewsV, GrowV, TextV, bytesL, notInt, typeAt, argAt, Con.read, Con.make, Con.ext, Con.rel, den, Con.extS, Con.draw, Con.step, Draws.steps, Try.f90, pickC, putC, closeC, hn3, hk6, hk7, hbase, hy, hq, Con.gen]
        exact EndK.all ⟨rfl, hle3, s, p3, hP3, by omega, by omega, by omega, by omega, by omega, by omega, by omega, by omega⟩
def stepC_S : Gens Try.prog 90 where
  ι := ((Rdr) × (List Blk) × (Nat) × (PS) × (Int))
  A := fun (i : ((Rdr) × (List Blk) × (Nat) × (PS) × (Int))) => match i with | (R, mem0, bp, s, p) => [.p mem0.length bp 0]
  pre := fun (i : ((Rdr) × (List Blk) × (Nat) × (PS) × (Int))) (cx : Cx) (mem : List Blk) => match i with | (R, mem0, bp, s, p) => R.ty = 88 ∧ R.Is (factF cx) mem0 ∧ Pl (factF cx) R mem0 bp s p mem ∧ 0 ≤ p ∧ p + 5000 ≤ 1125899906842624 ∧ s.xs.length ≤ 80000 ∧ 0 ≤ s.bits ∧ s.bits ≤ 16 ∧ 0 ≤ s.forks ∧ s.forks ≤ 8
  post := fun (i : ((Rdr) × (List Blk) × (Nat) × (PS) × (Int))) (cx : Cx) (mem : List Blk) (cx' : Cx) (c : C) (mem' : List Blk) => match i with | (R, mem0, bp, s, p) => c = .v (.tuple #[]) ∧ Le cx cx' ∧ ∃ s' p', Pl (factF cx') R mem0 bp s' p' mem' ∧ p ≤ p' ∧ p' ≤ p + 5000 ∧ s.xs.length ≤ s'.xs.length ∧ s'.xs.length ≤ s.xs.length + 19 ∧ 0 ≤ s'.bits ∧ s'.bits ≤ 16 ∧ 0 ≤ s'.forks ∧ s'.forks ≤ 8
  enter := Try.call90
  h := fun i cx mem w hp hm => stepC_c i.1 i.2.1 i.2.2.1 i.2.2.2.1 i.2.2.2.2 cx mem w hp hm
def stepC : Con Try.prog := Con.gen stepC_S
theorem stepC_at {R : Rdr} {mem0 : List Blk} {bp : Nat} {s : PS} {p : Int} {d : Nat} {cx : Cx} {mem : List Blk} {K : Cx → C → List Blk → Prop} (hpre : R.ty = 88 ∧ R.Is (factF cx) mem0 ∧ Pl (factF cx) R mem0 bp s p mem ∧ 0 ≤ p ∧ p + 5000 ≤ 1125899906842624 ∧ s.xs.length ≤ 80000 ∧ 0 ≤ s.bits ∧ s.bits ≤ 16 ∧ 0 ≤ s.forks ∧ s.forks ≤ 8) (h : ∀ cx' c mem', (c = .v (.tuple #[]) ∧ Le cx cx' ∧ ∃ s' p', Pl (factF cx') R mem0 bp s' p' mem' ∧ p ≤ p' ∧ p' ≤ p + 5000 ∧ s.xs.length ≤ s'.xs.length ∧ s'.xs.length ≤ s.xs.length + 19 ∧ 0 ≤ s'.bits ∧ s'.bits ≤ 16 ∧ 0 ≤ s'.forks ∧ s'.forks ≤ 8) → K cx' c mem') : GenV d stepC_S cx [.p mem0.length bp 0] mem K := ⟨(R, mem0, bp, s, p), rfl, hpre, h⟩
end Go.Proofs.Ytfhnbdlkiemaeaa
