/-
  Contracts: lists that are drawn.
-/
import Derived.Test.YtfhnbdlkiemaeaaGh
set_option linter.unusedVariables false
set_option linter.unusedSimpArgs false
set_option maxRecDepth 100000
set_option maxHeartbeats 4000000
namespace Go.Proofs.Ytfhnbdlkiemaeaa
open Go Go.Sx

theorem step_play {d : Nat} {p : Int} {K : Cx → C → List Blk → Prop} {R : Rdr} {cx0 cx1 cx : Cx} {mem0 mem : List Blk} {bp : Nat} {s : PS} (hR : R.Is (factF cx0) mem0) (hty : R.ty = 88) (hle : Le cx0 cx1) (hle2 : Le cx1 cx) (hP : Pl (factF cx) R mem0 bp s p mem)
    (hp : 0 ≤ p ∧ p + 5000 ≤ 1125899906842624) (hl : s.xs.length ≤ 80000) (hb : 0 ≤ s.bits ∧ s.bits ≤ 16) (hf : 0 ≤ s.forks ∧ s.forks ≤ 8)
    (h : ∀ cx' s' p' mem', Le cx1 cx' → Pl (factF cx') R mem0 bp s' p' mem' → p ≤ p' → p' ≤ p + 5000 → s.xs.length ≤ s'.xs.length → s'.xs.length ≤ s.xs.length + 19 → 0 ≤ s'.bits → s'.bits ≤ 16 → 0 ≤ s'.forks → s'.forks ≤ 8 → K cx' (.v (.tuple #[])) mem') :
    GenV d stepC_S cx [.p mem0.length bp 0] mem K := by
  refine stepC_at ⟨hty, hR.on (hle.trans hle2).fact (Nat.le_refl _), hP, hp.1, hp.2, hl, hb.1, hb.2, hf.1, hf.2⟩ ?_
  rintro cx' c mem' ⟨rfl, h1, s', p', h2, h3, h4, h5, h6, h7, h8, h9, h10⟩
  exact h _ _ _ _ (hle2.trans h1) h2 h3 h4 h5 h6 h7 h8 h9 h10
theorem rungC_c (R : Rdr) (mem0 : List Blk) (bp : Nat) (s : PS) (p n : Int) (cx : Cx) (mem : List Blk) (w : World) (hpre : R.ty = 88 ∧ R.Is (factF cx) mem0 ∧ Pl (factF cx) R mem0 bp s p mem ∧ 0 ≤ p ∧ p + 300000 ≤ 1125899906842624 ∧ s.xs.length ≤ 70000 ∧ s.forks = 0 ∧ 0 ≤ n ∧ n ≤ 40) (hm : MemRel cx mem w) :
    Calls Try.prog 69 (([.p mem0.length bp 0, .v (.int .i64 n)] : List C).map den).toArray w fun e w' => ∃ cx' c mem', e = .returned (den c) ∧ MemRel cx' mem' w' ∧ c = .v (.tuple #[]) ∧ Le cx cx' ∧ ∃ s' p', Pl (factF cx') R mem0 bp s' p' mem' ∧ p ≤ p' ∧ p' ≤ p + 300000 ∧ s.xs.length < s'.xs.length ∧ s'.xs.length ≤ s.xs.length + 1000 ∧ s'.forks = 0 := by
  refine step_of_vcs ⟨[putC, stepC, closeC], []⟩ hmx Try.func69 rfl (by kernel_rfl) (args := [.p mem0.length bp 0, .v (.int .i64 n)]) (by simp [Try.ntmps69]) hm (fun cx' c mem' => c = .v (.tuple #[]) ∧ Le cx cx' ∧ ∃ s' p', Pl (factF cx') R mem0 bp s' p' mem' ∧ p ≤ p' ∧ p' ≤ p + 300000 ∧ s.xs.length < s'.xs.length ∧ s'.xs.length ≤ s.xs.length + 1000 ∧ s'.forks = 0) 400 ?_
  obtain ⟨hty, hR, hP, hp, hpc, hl, hf0, hn0, hn1⟩ := hpre
  have hlt := hR.lt
  have hn := hP.lt
  obtain ⟨oc, hk⟩ := Play.blk hP
  have hk2 := (List.getElem?_eq_some_iff.1 hk).2
  simp (maxSteps := 4000000) -dsimp [-List.all_eq_true, -Array.all_eq_true, -Bool.exists_bool, -Bool.forall_bool, vcsE1, vcsE2, vcsE3, vcsE4, vcsE5, vcsE6, vcsE7, vcsE8, vcsE9, vcsE10, vcsE11, vcsE12, vcsE13, vcsE14, vcsE15, vcsE16, vcsE17, vcsE18, vcsE19, Sx.get, Sx.look, Sx.put, pureFn, findOrd, unF, dstOk, isFloatT, endVC, resFn, packC, newFn, storeFn, buildFn, undef, known, aggT, cellsC, Value.cells, findCon, Con.pure, Con.some, allV, partsV, partsC, fillL, Sx.exitTo, fAr, C.one, Value.oneCell', eqFn, eqFieldsFn, eqElemsFn, partFn, and_assoc, List.zipIdx, sliceFn, boundFn, AppV, CopyV, MakeSliceV, NewsV, GrowV, TextV, bytesL, notInt, typeAt, argAt, Con.read, Con.make, Con.ext, Con.rel, den, Con.extS, Con.draw, Con.step, Draws.steps, Try.f69, putC, stepC, closeC, hn, hk, hk2, Con.gen]
  refine put_play hR hty (Le.refl _) (Le.refl _) (Play.upd' hP hk s.bits s.forks false s.fresh) (by omega) (by simp only; omega) ?_
  rintro cx1 x1 p1 mem1 hle1 hP1 - b1 b2
  have hl1 := hP1.lt
  obtain ⟨oc1, hk3⟩ := Play.blk hP1
  simp only at hk3
  have hk4 := (List.getElem?_eq_some_iff.1 hk3).2
  simp (maxSteps := 4000000) -dsimp [-List.all_eq_true, -Array.all_eq_true, -Bool.exists_bool, -Bool.forall_bool, vcsE1, vcsE2, vcsE3, vcsE4, vcsE5, vcsE6, vcsE7, vcsE8, vcsE9, vcsE10, vcsE11, vcsE12, vcsE13, vcsE14, vcsE15, vcsE16, vcsE17, vcsE18, vcsE19, Sx.get, Sx.look, Sx.put, pureFn, findOrd, unF, dstOk, isFloatT, endVC, resFn, packC, newFn, storeFn, buildFn, undef, known, aggT, cellsC, Value.cells, findCon, Con.pure, Con.some, allV, partsV, partsC, fillL, Sx.exitTo, fAr, C.one, Value.oneCell', eqFn, eqFieldsFn, eqElemsFn, partFn, and_assoc, List.zipIdx, sliceFn, boundFn, AppV, CopyV, MakeSliceV, NewsV, GrowV, TextV, bytesL, notInt, typeAt, argAt, Con.read, Con.make, Con.ext, Con.rel, den, Con.extS, Con.draw, Con.step, Draws.steps, Try.f69, putC, stepC, closeC, hl1, hk3, hk4, Con.gen]
  refine loop_inv (σ := ⟨[putC, stepC, closeC], []⟩) hmx (by kernel_rfl) (fun q cx' tm mem' => Le cx cx' ∧ ∃ (i : Nat) (s' : PS) (p' : Int), (i : Int) ≤ n ∧ q = n.toNat - i ∧ Pl (factF cx') R mem0 bp s' p' mem' ∧ p ≤ p' ∧ p' ≤ p + 100 + 5000 * i ∧ s.xs.length < s'.xs.length ∧ s'.xs.length ≤ s.xs.length + 1 + 19 * i ∧ 0 ≤ s'.bits ∧ s'.bits ≤ 16 ∧ 0 ≤ s'.forks ∧ s'.forks ≤ 8 ∧ Sx.look tm 4 = .v (.int .i64 i) ∧ Sx.look tm 1 = .v (.int .i64 n) ∧ Sx.look tm 0 = .p mem0.length bp 0)
    n.toNat ⟨hle1, 0, _, p1, by omega, rfl, Play.upd' hP1 hk3 1 s.forks _ _, by omega, by omega, by simp, by simp, by simp only; omega, by simp only; omega, by simp only; omega, by simp only; omega, by simp [Sx.look], by simp [Sx.look], by simp [Sx.look]⟩ ?_
  rintro q cx2 tm mem2 ⟨hle2, i, s2, p2, hi, rfl, hP2, a1, a2, a3, a4, a5, a6, a7, a8, j2, j1, j0⟩
  refine ⟨400, ?_⟩
  by_cases h8 : (i : Int) < n
  · simp (maxSteps := 4000000) -dsimp [-List.all_eq_true, -Array.all_eq_true, -Bool.exists_bool, -Bool.forall_bool, vcsE1, vcsE2, vcsE3, vcsE4, vcsE5, vcsE6, vcsE7, vcsE8, vcsE9, vcsE10, vcsE11, vcsE12, vcsE13, vcsE14, vcsE15, vcsE16, vcsE17, vcsE18, vcsE19, Sx.get, Sx.look, Sx.put, pureFn, findOrd, unF, dstOk, isFloatT, endVC, resFn, packC, newFn, storeFn, buildFn, undef, known, aggT, cellsC, Value.cells, findCon, Con.pure, Con.some, allV, partsV, partsC, fillL, Sx.exitTo, fAr, C.one, Value.oneCell', eqFn, eqFieldsFn, eqElemsFn, partFn, and_assoc, List.zipIdx, sliceFn, boundFn, AppV, CopyV, MakeSliceV, NewsV, GrowV, TextV, bytesL, notInt, typeAt, argAt, Con.read, Con.make, Con.ext, Con.rel, den, Con.extS, Con.draw, Con.step, Draws.steps, Try.f69, putC, stepC, closeC, j0, j1, j2, h8, Con.gen]
    refine step_play hR hty (Le.refl _) hle2 hP2 ⟨by omega, by omega⟩ (by omega) ⟨a5, a6⟩ ⟨a7, a8⟩ ?_
    rintro cx3 s3 p3 mem3 hle3 hP3 c1 c2 c3 c4 c5 c6 c7 c8
    simp (maxSteps := 4000000) -dsimp [-List.all_eq_true, -Array.all_eq_true, -Bool.exists_bool, -Bool.forall_bool, vcsE1, vcsE2, vcsE3, vcsE4, vcsE5, vcsE6, vcsE7, vcsE8, vcsE9, vcsE10, vcsE11, vcsE12, vcsE13, vcsE14, vcsE15, vcsE16, vcsE17, vcsE18, vcsE19, Sx.get, Sx.look, Sx.put, pureFn, findOrd, unF, dstOk, isFloatT, endVC, resFn, packC, newFn, storeFn, buildFn, undef, known, aggT, cellsC, Value.cells, findCon, Con.pure, Con.some, allV, partsV, partsC, fillL, Sx.exitTo, fAr, C.one, Value.oneCell', eqFn, eqFieldsFn, eqElemsFn, partFn, and_assoc, List.zipIdx, sliceFn, boundFn, AppV, CopyV, MakeSliceV, NewsV, GrowV, TextV, bytesL, notInt, typeAt, argAt, Con.read, Con.make, Con.ext, Con.rel, den, Con.extS, Con.draw, Con.step, Draws.steps, Try.f69, putC, stepC, closeC, j0, j1, j2, i_succ (i := i) (by omega)]
    exact ⟨mem3.length, n.toNat - (i + 1), by omega, hle3, i + 1, by omega, rfl, s3, p3, by rw [List.take_of_length_le (by simp)]; exact hP3, by omega, by omega, by omega, by omega, c5, c6, c7, c8, rfl⟩
  · simp (maxSteps := 4000000) -dsimp [-List.all_eq_true, -Array.all_eq_true, -Bool.exists_bool, -Bool.forall_bool, vcsE1, vcsE2, vcsE3, vcsE4, vcsE5, vcsE6, vcsE7, vcsE8, vcsE9, vcsE10, vcsE11, vcsE12, vcsE13, vcsE14, vcsE15, vcsE16, vcsE17, vcsE18, vcsE19, Sx.get, Sx.look, Sx.put, pureFn, findOrd, unF, dstOk, isFloatT, endVC, resFn, packC, newFn, storeFn, buildFn, undef, known, aggT, cellsC, Value.cells, findCon, Con.pure, Con.some, allV, partsV, partsC, fillL, Sx.exitTo, fAr, C.one, Value.oneCell', eqFn, eqFieldsFn, eqElemsFn, partFn, and_assoc, List.zipIdx, sliceFn, boundFn, AppV, CopyV, MakeSliceV, NewsV, GrowV, TextV, bytesL, notInt, typeAt, argAt, Con.read, Con.make, Con.ext, Con.rel, den, Con.extS, Con.draw, Con.step, Draws.steps, Try.f69, putC, stepC, closeC, j0, j1, j2, h8, Con.gen]
    refine close_play hR hty (Le.refl _) hle2 hP2 ⟨by omega, by omega⟩ (by omega) ⟨a5, a6⟩ ?_
    rintro cx4 s4 p4 mem4 hle4 hP4 d1 d2 d3 d4 d5 d6
    simp (maxSteps := 4000000) -dsimp [-List.all_eq_true, -Array.all_eq_true, -Bool.exists_bool, -Bool.forall_bool, vcsE1, vcsE2, vcsE3, vcsE4, vcsE5, vcsE6, vcsE7, vcsE8, vcsE9, vcsE10, vcsE11, vcsE12, vcsE13, vcsE14, vcsE15, vcsE16, vcsE17, vcsE18, vcsE19, Sx.get, Sx.look, Sx.put, pureFn, findOrd, unF, dstOk, isFloatT, endVC, resFn, packC, newFn, storeFn, buildFn, undef, known, aggT, cellsC, Value.cells, findCon, Con.pure, Con.some, allV, partsV, partsC, fillL, Sx.exitTo, fAr, C.one, Value.oneCell', eqFn, eqFieldsFn, eqElemsFn, partFn, and_assoc, List.zipIdx, sliceFn, boundFn, AppV, CopyV, MakeSliceV, NewsV, GrowV, TextV, bytesL, notInt, typeAt, argAt, Con.read, Con.make, Con.ext, Con.rel, den, Con.extS, Con.draw, Con.step, Draws.steps, Try.f69, putC, stepC, closeC, j0, j1, j2]
    refine loop_inv (σ := ⟨[putC, stepC, closeC], []⟩) hmx (by kernel_rfl) (fun q cx' tm mem' => Le cx cx' ∧ ∃ (s' : PS) (p' : Int), q = s'.forks.toNat ∧ Pl (factF cx') R mem0 bp s' p' mem' ∧ p ≤ p' ∧ p' ≤ p + 204100 + 4200 * (8 - s'.forks) ∧ s.xs.length < s'.xs.length ∧ (s'.xs.length : Int) ≤ s.xs.length + 778 + 18 * (8 - s'.forks) ∧ 0 ≤ s'.bits ∧ s'.bits ≤ 16 ∧ 0 ≤ s'.forks ∧ s'.forks ≤ 8 ∧ Sx.look tm 0 = .p mem0.length bp 0)
      s4.forks.toNat ⟨hle4, s4, p4, rfl, hP4, by omega, by omega, by omega, by omega, by omega, by omega, by omega, by omega, by first | exact j0 | simp [Sx.look, j0]⟩ ?_
    rintro q cx5 tm5 mem5 ⟨hle5, s5, p5, rfl, hP5, e1, e2, e3, e4, e5, e6, e7, e8, j5⟩
    refine ⟨400, ?_⟩
    have hl5 := hP5.lt
    obtain ⟨oc5, hk5⟩ := Play.blk hP5
    have hk6 := (List.getElem?_eq_some_iff.1 hk5).2
    by_cases hfk : 0 < s5.forks
    · have hw := wrap_i64 (x := s5.forks - 1) (by omega) (by omega)
      simp (maxSteps := 4000000) -dsimp [-List.all_eq_true, -Array.all_eq_true, -Bool.exists_bool, -Bool.forall_bool, vcsE1, vcsE2, vcsE3, vcsE4, vcsE5, vcsE6, vcsE7, vcsE8, vcsE9, vcsE10, vcsE11, vcsE12, vcsE13, vcsE14, vcsE15, vcsE16, vcsE17, vcsE18, vcsE19, Sx.get, Sx.look, Sx.put, pureFn, findOrd, unF, dstOk, isFloatT, endVC, resFn, packC, newFn, storeFn, buildFn, undef, known, aggT, cellsC, Value.cells, findCon, Con.pure, Con.some, allV, partsV, partsC, fillL, Sx.exitTo, fAr, C.one, Value.oneCell', eqFn, eqFieldsFn, eqElemsFn, partFn, and_assoc, List.zipIdx, sliceFn, boundFn, AppV, CopyV, MakeSliceV, NewsV, GrowV, TextV, bytesL, notInt, typeAt, argAt, Con.read, Con.make, Con.ext, Con.rel, den, Con.extS, Con.draw, Con.step, Draws.steps, Try.f69, putC, stepC, closeC, j5, hl5, hk5, hk6, hfk, Con.gen]
      refine put_play hR hty (Le.refl _) hle5 hP5 (by omega) (by omega) ?_
      rintro cx6 x6 p6 mem6 hle6 hP6 - f1 f2
      have hl6 := hP6.lt
      obtain ⟨oc6, hk7⟩ := Play.blk hP6
      simp only at hk7
      have hk8 := (List.getElem?_eq_some_iff.1 hk7).2
      simp (maxSteps := 4000000) -dsimp [-List.all_eq_true, -Array.all_eq_true, -Bool.exists_bool, -Bool.forall_bool, vcsE1, vcsE2, vcsE3, vcsE4, vcsE5, vcsE6, vcsE7, vcsE8, vcsE9, vcsE10, vcsE11, vcsE12, vcsE13, vcsE14, vcsE15, vcsE16, vcsE17, vcsE18, vcsE19, Sx.get, Sx.look, Sx.put, pureFn, findOrd, unF, dstOk, isFloatT, endVC, resFn, packC, newFn, storeFn, buildFn, undef, known, aggT, cellsC, Value.cells, findCon, Con.pure, Con.some, allV, partsV, partsC, fillL, Sx.exitTo, fAr, C.one, Value.oneCell', eqFn, eqFieldsFn, eqElemsFn, partFn, and_assoc, List.zipIdx, sliceFn, boundFn, AppV, CopyV, MakeSliceV, NewsV, GrowV, TextV, bytesL, notInt, typeAt, argAt, Con.read, Con.make, Con.ext, Con.rel, den, Con.extS, Con.draw, Con.step, Draws.steps, Try.f69, putC, stepC, closeC, j5, hl6, hk7, hk8, hw, Con.gen]
      refine close_play hR hty (Le.refl _) hle6 (Play.upd' hP6 hk7 s5.bits (s5.forks - 1) _ _) ⟨by omega, by omega⟩ (by simp; omega) ⟨e5, e6⟩ ?_
      rintro cx7 s7 p7 mem7 hle7 hP7 g1 g2 g3 g4 g5 g6
      simp only [List.length_append, List.length_cons, List.length_nil] at g3 g4 g5 g6
      simp (maxSteps := 4000000) -dsimp [-List.all_eq_true, -Array.all_eq_true, -Bool.exists_bool, -Bool.forall_bool, vcsE1, vcsE2, vcsE3, vcsE4, vcsE5, vcsE6, vcsE7, vcsE8, vcsE9, vcsE10, vcsE11, vcsE12, vcsE13, vcsE14, vcsE15, vcsE16, vcsE17, vcsE18, vcsE19, Sx.get, Sx.look, Sx.put, pureFn, findOrd, unF, dstOk, isFloatT, endVC, resFn, packC, newFn, storeFn, buildFn, undef, known, aggT, cellsC, Value.cells, findCon, Con.pure, Con.some, allV, partsV, partsC, fillL, Sx.exitTo, fAr, C.one, Value.oneCell', eqFn, eqFieldsFn, eqElemsFn, partFn, and_assoc, List.zipIdx, sliceFn, boundFn, AppV, CopyV, MakeSliceV, NewsV, GrowV, TextV, bytesL, notInt, typeAt, argAt, Con.read, Con.make, Con.ext, Con.rel, den, Con.extS, Con.draw, Con.step, Draws.steps, Try.f69, putC, stepC, closeC, j5]
      exact ⟨mem7.length, s7.forks.toNat, by omega, hle7, s7, rfl, p7, by rw [List.take_of_length_le (by simp)]; exact hP7, by omega, by omega, by omega, by omega, by omega, by omega, by omega, by omega⟩
    · simp (maxSteps := 4000000) -dsimp [-List.all_eq_true, -Array.all_eq_true, -Bool.exists_bool, -Bool.forall_bool, vcsE1, vcsE2, vcsE3, vcsE4, vcsE5, vcsE6, vcsE7, vcsE8, vcsE9, vcsE10, vcsE11, vcsE12, vcsE13, vcsE14, vcsE15, vcsE16, vcsE17, vcsE18, vcsE19, Sx.get, Sx.look, Sx.put, pureFn, findOrd, unF, dstOk, isFloatT, endVC, resFn, packC, newFn, storeFn, buildFn, undef, known, aggT, cellsC, Value.cells, findCon, Con.pure, Con.some, allV, partsV, partsC, fillL, Sx.exitTo, fAr, C.one, Value.oneCell', eqFn, eqFieldsFn, eqElemsFn, partFn, and_assoc, List.zipIdx, sliceFn, boundFn, AppV, CopyV, MakeSliceV, NewsV, GrowV, TextV, bytesL, notInt, typeAt, argAt, Con.read, Con.make, Con.ext, Con.rel, den, Con.extS, Con.draw, Con.step, Draws.steps, Try.f69, putC, stepC, closeC, j5, hl5, hk5, hk6, hfk, Con.gen]
      refine put_play hR hty (Le.refl _) hle5 hP5 (by omega) (by omega) ?_
      rintro cx6 x6 p6 mem6 hle6 hP6 - f1 f2
      have hl6 := hP6.lt
      obtain ⟨oc6, hk7⟩ := Play.blk hP6
      simp only at hk7
      have hk8 := (List.getElem?_eq_some_iff.1 hk7).2
      simp (maxSteps := 4000000) -dsimp [-List.all_eq_true, -Array.all_eq_true, -Bool.exists_bool, -Bool.forall_bool, vcsE1, vcsE2, vcsE3, vcsE4, vcsE5, vcsE6, vcsE7, vcsE8, vcsE9, vcsE10, vcsE11, vcsE12, vcsE13, vcsE14, vcsE15, vcsE16, vcsE17, vcsE18, vcsE19, Sx.get, Sx.look, Sx.put, pureFn, findOrd, unF, dstOk, isFloatT, endVC, resFn, packC, newFn, storeFn, buildFn, undef, known, aggT, cellsC, Value.cells, findCon, Con.pure, Con.some, allV, partsV, partsC, fillL, Sx.exitTo, fAr, C.one, Value.oneCell', eqFn, eqFieldsFn, eqElemsFn, partFn, and_assoc, List.zipIdx, sliceFn, boundFn, AppV, CopyV, MakeSliceV, NewsV, GrowV, TextV, bytesL, notInt, typeAt, argAt, Con.read, Con.make, Con.ext, Con.rel, den, Con.extS, Con.draw, Con.step, Draws.steps, Try.f69, putC, stepC, closeC, j5, hl6, hk7, hk8, Con.gen]
      exact EndK.all ⟨rfl, hle6, _, p6, Play.upd' hP6 hk7 0 s5.forks _ _, by omega, by omega, by simp; omega, by simp; omega, by simp only; omega⟩
def rungC_S : Gens Try.prog 69 where
  ι := ((Rdr) × (List Blk) × (Nat) × (PS) × (Int) × (Int))
  A := fun (i : ((Rdr) × (List Blk) × (Nat) × (PS) × (Int) × (Int))) => match i with | (R, mem0, bp, s, p, n) => [.p mem0.length bp 0, .v (.int .i64 n)]
  pre := fun (i : ((Rdr) × (List Blk) × (Nat) × (PS) × (Int) × (Int))) (cx : Cx) (mem : List Blk) => match i with | (R, mem0, bp, s, p, n) => R.ty = 88 ∧ R.Is (factF cx) mem0 ∧ Pl (factF cx) R mem0 bp s p mem ∧ 0 ≤ p ∧ p + 300000 ≤ 1125899906842624 ∧ s.xs.length ≤ 70000 ∧ s.forks = 0 ∧ 0 ≤ n ∧ n ≤ 40
  post := fun (i : ((Rdr) × (List Blk) × (Nat) × (PS) × (Int) × (Int))) (cx : Cx) (mem : List Blk) (cx' : Cx) (c : C) (mem' : List Blk) => match i with | (R, mem0, bp, s, p, n) => c = .v (.tuple #[]) ∧ Le cx cx' ∧ ∃ s' p', Pl (factF cx') R mem0 bp s' p' mem' ∧ p ≤ p' ∧ p' ≤ p + 300000 ∧ s.xs.length < s'.xs.length ∧ s'.xs.length ≤ s.xs.length + 1000 ∧ s'.forks = 0
  enter := Try.call69
  h := fun i cx mem w hp hm => rungC_c i.1 i.2.1 i.2.2.1 i.2.2.2.1 i.2.2.2.2.1 i.2.2.2.2.2 cx mem w hp hm
def rungC : Con Try.prog := Con.gen rungC_S
theorem rungC_at {R : Rdr} {mem0 : List Blk} {bp : Nat} {s : PS} {p n : Int} {d : Nat} {cx : Cx} {mem : List Blk} {K : Cx → C → List Blk → Prop} (hpre : R.ty = 88 ∧ R.Is (factF cx) mem0 ∧ Pl (factF cx) R mem0 bp s p mem ∧ 0 ≤ p ∧ p + 300000 ≤ 1125899906842624 ∧ s.xs.length ≤ 70000 ∧ s.forks = 0 ∧ 0 ≤ n ∧ n ≤ 40) (h : ∀ cx' c mem', (c = .v (.tuple #[]) ∧ Le cx cx' ∧ ∃ s' p', Pl (factF cx') R mem0 bp s' p' mem' ∧ p ≤ p' ∧ p' ≤ p + 300000 ∧ s.xs.length < s'.xs.length ∧ s'.xs.length ≤ s.xs.length + 1000 ∧ s'.forks = 0) → K cx' c mem') : GenV d rungC_S cx [.p mem0.length bp 0, .v (.int .i64 n)] mem K := ⟨(R, mem0, bp, s, p, n), rfl, hpre, h⟩
end Go.Proofs.Ytfhnbdlkiemaeaa
namespace Go.Proofs.Ytfhnbdlkiemaeaa
open Go Go.Sx

theorem rows_row {F : Facts} {b : Nat} {rows : List (List Value)} {pad : List C} (hr3 : ∀ r ∈ rows, r.length = 3) (h : ∀ (off : Nat) c, (rowsC rows pad)[off]? = some c → F ⟨b, off, none⟩ = some (den c)) : RdO F 3 (some ⟨b, 0, none⟩) rows := by
  intro i r hr
  refine ⟨hr3 r (List.mem_of_getElem? hr), _, rfl, fun j x hx => ?_⟩
  have hf := flat_at rows i r hr3 hr j x hx
  have hl := (List.getElem?_eq_some_iff.1 hf).1
  rw [addr_add, Nat.zero_add]
  refine h _ (.v x) ?_
  unfold rowsC
  rw [List.getElem?_append_left (by rw [List.length_map]; exact hl), List.getElem?_map, hf]
  rfl
theorem play_new {F : Facts} {R : Rdr} {mem : List Blk} {b : Nat} {p : Int} (hl : R.k < mem.length) : Pl F R mem b ⟨[], 0, 0, false, false⟩ p (mem.set R.k (R.blk p) ++ [⟨b, [.p R.k R.b 0, .v (.slice none 0 0), .v (.int .i64 0), .v (.int .i64 0), .v (.bool false), .v (.bool false)], 95⟩]) := by
  refine ⟨by simp, ?_, .v (.slice none 0 0), ?_, Or.inl ⟨rfl, rfl⟩⟩
  · rw [List.take_append_of_le_length (by simp), List.take_of_length_le (by simp)]
  · rw [List.getElem?_append_right (by simp)]
    simp [playBlk]
theorem play_end {d : Nat} {cx0 cx : Cx} {R : Rdr} {mem mem' : List Blk} {bp : Nat} {s : PS} {p0 p e : Int} {oc : C} {n : Nat} (hP : Pl (factF cx) R mem bp s p mem') (ho : OutRow 57 (factF cx) mem.length oc s.xs mem') (hle : Le cx0 cx) (h1 : p0 ≤ p) (h2 : p ≤ p0 + e) (hx : s.xs.length ≤ n) :
    EndK d (fun cx' x m => ∃ v p', x = .v v ∧ m = mem.set R.k (R.blk p') ∧ Le cx0 cx' ∧ p0 ≤ p' ∧ p' ≤ p0 + e ∧ (∃ xs, IsList (factF cx') v xs ∧ xs.length ≤ n ∧ (∀ x ∈ xs, x.args.length ≤ 3))) cx oc mem' := by
  have e : mem' = mem.set R.k (R.blk p) ++ mem'.drop mem.length := by
    rw [← hP.take, List.take_append_drop]
  rcases ho with ⟨rfl, hx0⟩ | ⟨ko, bo, cap, rows, pad, rfl, hko, hm, hf, hrl, hxc, hcm, hpad⟩
  · rw [e]
    exact EndK.left ⟨_, p, rfl, rfl, hle, h1, h2, s.xs, ⟨none, 0, by rw [hx0]; rfl, by rw [hx0]; exact RdN.nil _ _, by rw [hx0]; simp, by decide⟩, hx, hP.args⟩
  · have hb : (⟨bo, rowsC rows pad, 57⟩ : Blk) ∈ mem'.drop mem.length := List.mem_of_getElem? (i := ko - mem.length) (by rw [List.getElem?_drop, show mem.length + (ko - mem.length) = ko by omega]; exact hm)
    have hf3 := hf
    rw [e]
    refine EndK.facts fun cxz hlz hfz => ⟨_, p, rfl, rfl, hle.trans hlz, h1, h2, s.xs, ⟨some ⟨bo, 0, none⟩, cap, rfl, ⟨rows, rows_row hf.len (hfz _ hb), hrl, (hf3.mono hlz.fact).at'⟩, hxc, hcm⟩, hx, hP.args⟩
/-- Two memories that denote the same. -/
def DenEq (mem mem2 : List Blk) : Prop := ∀ (k : Nat) b, mem2[k]? = some b → ∃ b0, mem[k]? = some b0 ∧ b0.id = b.id ∧ b0.ty = b.ty ∧ b0.cells.map den = b.cells.map den
theorem denEq_refl (mem : List Blk) : DenEq mem mem := fun k b h => ⟨b, h, rfl, rfl, rfl⟩
theorem denEq_new {m : List Blk} {b1 b2 : Blk} (h1 : b1.id = b2.id) (h2 : b1.ty = b2.ty) (h3 : b1.cells.map den = b2.cells.map den) : DenEq (m ++ [b1]) (m ++ [b2]) := by
  intro k bl hk
  by_cases hl : k < m.length
  · rw [List.getElem?_append_left hl] at hk
    exact ⟨bl, by rw [List.getElem?_append_left hl]; exact hk, rfl, rfl, rfl⟩
  · rw [List.getElem?_append_right (by omega)] at hk
    rcases hq : k - m.length with _ | q
    · rw [hq] at hk
      simp at hk
      subst hk
      exact ⟨b1, by rw [List.getElem?_append_right (by omega), hq]; rfl, h1, h2, h3⟩
    · rw [hq] at hk
      simp at hk
theorem memRel_den {cx : Cx} {mem mem2 : List Blk} {w : World} (hm : MemRel cx mem w) (h : DenEq mem mem2) : MemRel cx mem2 w where
  os := hm.os
  tape := hm.tape
  output := hm.output
  frame := hm.frame
  facts := hm.facts
  le01 := hm.le01
  le1 := hm.le1
  blk k b hb := by
    obtain ⟨b0, h0, e1, e2, e3⟩ := h k b hb
    have := hm.blk k b0 h0
    rw [e1, e2, e3] at this
    exact this
  fresh b hb := by
    obtain ⟨k, hk⟩ := List.getElem?_of_mem hb
    obtain ⟨b0, h0, e1, _⟩ := h k b hk
    rw [← e1]
    exact hm.fresh b0 (List.mem_of_getElem? h0)
  low b hb hl := by
    obtain ⟨k, hk⟩ := List.getElem?_of_mem hb
    obtain ⟨b0, h0, e1, _⟩ := h k b hk
    rw [← e1] at hl ⊢
    exact hm.low b0 (List.mem_of_getElem? h0) hl
  inj i j b c hi hj he := by
    obtain ⟨b0, h0, e0, _⟩ := h i b hi
    obtain ⟨c0, g0, f0, _⟩ := h j c hj
    exact hm.inj i j b0 c0 h0 g0 (by rw [e0, f0, he])
/-- A rung is played; the player may lie in a memory that denotes the same. -/
def rungU_S : Gens Try.prog 69 where
  ι := (Rdr × List Blk × Nat × PS × Int × Int)
  A := rungC_S.A
  pre := fun i cx mem => ∃ mem2, DenEq mem mem2 ∧ rungC_S.pre i cx mem2
  post := fun i cx mem cx' c mem' => rungC_S.post i cx mem cx' c mem'
  enter := Try.call69
  h := fun i cx mem w hp hm => by
    obtain ⟨mem2, h1, h2⟩ := hp
    exact rungC_S.h i cx mem2 w h2 (memRel_den hm h1)
def rungU : Con Try.prog := Con.gen rungU_S
theorem rung_play {d : Nat} {n p : Int} {K : Cx → C → List Blk → Prop} {R : Rdr} {cx0 cx : Cx} {mem0 mem : List Blk} {bp : Nat} {s : PS} (hR : R.Is (factF cx0) mem0) (hty : R.ty = 88) (hle : Le cx0 cx) (hP : ∃ mem2, DenEq mem mem2 ∧ Pl (factF cx) R mem0 bp s p mem2)
    (hp : 0 ≤ p ∧ p + 300000 ≤ 1125899906842624) (hl : s.xs.length ≤ 70000) (hf : s.forks = 0) (hn : 0 ≤ n ∧ n ≤ 40)
    (h : ∀ cx' s' p' mem', Le cx0 cx' → Pl (factF cx') R mem0 bp s' p' mem' → p ≤ p' → p' ≤ p + 300000 → s.xs.length < s'.xs.length → s'.xs.length ≤ s.xs.length + 1000 → s'.forks = 0 → K cx' (.v (.tuple #[])) mem') :
    GenV d rungU_S cx [.p mem0.length bp 0, .v (.int .i64 n)] mem K := by
  obtain ⟨mem2, hd, hP⟩ := hP
  refine ⟨(R, mem0, bp, s, p, n), rfl, ⟨mem2, hd, hty, hR.on hle.fact (Nat.le_refl _), hP, hp.1, hp.2, hl, hf, hn.1, hn.2⟩, ?_⟩
  rintro cx' c mem' ⟨rfl, h1, s', p', h2, h3, h4, h5, h6, h7⟩
  exact h _ _ _ _ (hle.trans h1) h2 h3 h4 h5 h6 h7
theorem l7SureC_c  (R : Rdr) (p : Int) (cx : Cx) (mem : List Blk) (w : World) (hty : R.ty = 88) (hR : R.Is (factF cx) mem) (hp : 0 ≤ p) (hpc : p + 1100000000 ≤ 1125899906842624) (hpre : True) (hm : MemRel cx (mem.set R.k (R.blk p)) w) :
    Calls Try.prog 53 ((.p R.k R.b 0 :: [] : List C).map den).toArray w fun e w' => ∃ cx' x mem', e = .returned (den x) ∧ MemRel cx' mem' w' ∧ (fun cx' x mem' => ∃ v p', x = .v v ∧ mem' = mem.set R.k (R.blk p') ∧ Le cx cx' ∧ p ≤ p' ∧ p' ≤ p + 1100000000 ∧ (∃ xs, IsList (factF cx') v xs ∧ xs.length ≤ 5000 ∧ (∀ x ∈ xs, x.args.length ≤ 3))) cx' x mem' := by
  refine step_of_vcs ⟨[pickC, rungU], []⟩ hmx Try.func53 rfl (by kernel_rfl) (args := .p R.k R.b 0 :: []) (by simp [Try.ntmps53]) hm (fun cx' x mem' => ∃ v p', x = .v v ∧ mem' = mem.set R.k (R.blk p') ∧ Le cx cx' ∧ p ≤ p' ∧ p' ≤ p + 1100000000 ∧ (∃ xs, IsList (factF cx') v xs ∧ xs.length ≤ 5000 ∧ (∀ x ∈ xs, x.args.length ≤ 3))) 400 ?_
  have hlt := hR.lt
  simp (maxSteps := 4000000) -dsimp [-List.all_eq_true, -Array.all_eq_true, -Bool.exists_bool, -Bool.forall_bool, vcsE1, vcsE2, vcsE3, vcsE4, vcsE5, vcsE6, vcsE7, vcsE8, vcsE9, vcsE10, vcsE11, vcsE12, vcsE13, vcsE14, vcsE15, vcsE16, vcsE17, vcsE18, vcsE19, Sx.get, Sx.look, Sx.put, pureFn, findOrd, unF, dstOk, isFloatT, endVC, resFn, packC, newFn, storeFn, buildFn, undef, known, aggT, cellsC, Value.cells, findCon, Con.pure, Con.some, allV, partsV, partsC, fillL, Sx.exitTo, fAr, C.one, Value.oneCell', eqFn, eqFieldsFn, eqElemsFn, partFn, and_assoc, List.zipIdx, sliceFn, boundFn, AppV, CopyV, MakeSliceV, NewsV, GrowV, TextV, bytesL, notInt, typeAt, argAt, Con.read, Con.make, Con.ext, Con.rel, den, Con.extS, Con.draw, Con.step, Draws.steps, Try.f53, pickC, rungU, hlt]
  intro b
  refine pickC_at hR hty (Le.refl cx) ⟨by omega, by omega⟩ (by omega) ?_
  rintro cx1 _ p1 hle1 - q1 q2 ⟨y, rfl, y0, y1⟩
  by_cases hy : y = 0
  · subst hy
    simp (maxSteps := 4000000) -dsimp [-List.all_eq_true, -Array.all_eq_true, -Bool.exists_bool, -Bool.forall_bool, vcsE1, vcsE2, vcsE3, vcsE4, vcsE5, vcsE6, vcsE7, vcsE8, vcsE9, vcsE10, vcsE11, vcsE12, vcsE13, vcsE14, vcsE15, vcsE16, vcsE17, vcsE18, vcsE19, Sx.get, Sx.look, Sx.put, pureFn, findOrd, unF, dstOk, isFloatT, endVC, resFn, packC, newFn, storeFn, buildFn, undef, known, aggT, cellsC, Value.cells, findCon, Con.pure, Con.some, allV, partsV, partsC, fillL, Sx.exitTo, fAr, C.one, Value.oneCell', eqFn, eqFieldsFn, eqElemsFn, partFn, and_assoc, List.zipIdx, sliceFn, boundFn, AppV, CopyV, MakeSliceV, NewsV, GrowV, TextV, bytesL, notInt, typeAt, argAt, Con.read, Con.make, Con.ext, Con.rel, den, Con.extS, Con.draw, Con.step, Draws.steps, Try.f53, pickC, rungU, hlt]
    exact EndK.left ⟨_, p1, rfl, rfl, hle1, by omega, by omega, [], ⟨none, 0, rfl, RdN.nil _ _, by simp, by decide⟩, by simp, by simp⟩
  simp (maxSteps := 4000000) -dsimp [-List.all_eq_true, -Array.all_eq_true, -Bool.exists_bool, -Bool.forall_bool, vcsE1, vcsE2, vcsE3, vcsE4, vcsE5, vcsE6, vcsE7, vcsE8, vcsE9, vcsE10, vcsE11, vcsE12, vcsE13, vcsE14, vcsE15, vcsE16, vcsE17, vcsE18, vcsE19, Sx.get, Sx.look, Sx.put, pureFn, findOrd, unF, dstOk, isFloatT, endVC, resFn, packC, newFn, storeFn, buildFn, undef, known, aggT, cellsC, Value.cells, findCon, Con.pure, Con.some, allV, partsV, partsC, fillL, Sx.exitTo, fAr, C.one, Value.oneCell', eqFn, eqFieldsFn, eqElemsFn, partFn, and_assoc, List.zipIdx, sliceFn, boundFn, AppV, CopyV, MakeSliceV, NewsV, GrowV, TextV, bytesL, notInt, typeAt, argAt, Con.read, Con.make, Con.ext, Con.rel, den, Con.extS, Con.draw, Con.step, Draws.steps, Try.f53, pickC, rungU, hlt, hy]
  refine pickC_at hR hty hle1 ⟨by omega, by omega⟩ (by omega) ?_
  rintro cx2 _ p2 hle2 - r1 r2 ⟨z, rfl, z0, z1⟩
  have hw : IntKind.i64.wrap (1 + z) = 1 + z := wrap_i64 (by omega) (by omega)
  simp (maxSteps := 4000000) -dsimp [-List.all_eq_true, -Array.all_eq_true, -Bool.exists_bool, -Bool.forall_bool, vcsE1, vcsE2, vcsE3, vcsE4, vcsE5, vcsE6, vcsE7, vcsE8, vcsE9, vcsE10, vcsE11, vcsE12, vcsE13, vcsE14, vcsE15, vcsE16, vcsE17, vcsE18, vcsE19, Sx.get, Sx.look, Sx.put, pureFn, findOrd, unF, dstOk, isFloatT, endVC, resFn, packC, newFn, storeFn, buildFn, undef, known, aggT, cellsC, Value.cells, findCon, Con.pure, Con.some, allV, partsV, partsC, fillL, Sx.exitTo, fAr, C.one, Value.oneCell', eqFn, eqFieldsFn, eqElemsFn, partFn, and_assoc, List.zipIdx, sliceFn, boundFn, AppV, CopyV, MakeSliceV, NewsV, GrowV, TextV, bytesL, notInt, typeAt, argAt, Con.read, Con.make, Con.ext, Con.rel, den, Con.extS, Con.draw, Con.step, Draws.steps, Try.f53, pickC, rungU, hlt, hw]
  refine loop_inv (σ := ⟨[pickC, rungU], []⟩) hmx (by kernel_rfl) (fun q cx' tm mem' => Le cx cx' ∧ ∃ (i : Int) (s' : PS) (p' : Int), q = i.toNat ∧ 0 ≤ i ∧ i ≤ 3 ∧ ((1 ≤ i ∧ s' = ⟨[], 0, 0, false, false⟩ ∧ mem' = mem.set R.k (R.blk p') ++ [⟨b, [.v (.pointer (some ⟨R.b, 0, none⟩)), .v (.slice none 0 0), .v (.int .i64 0), .v (.int .i64 0), .v (.bool false), .v (.bool false)], 95⟩]) ∨ Pl (factF cx') R mem b s' p' mem') ∧ s'.forks = 0 ∧ p ≤ p' ∧ p' ≤ p + 2 + 300001 * (3 - i) ∧ (s'.xs.length : Int) ≤ 1000 * (3 - i) ∧ Sx.look tm 4 = .v (.int .i64 i) ∧ Sx.look tm 3 = .p mem.length b 0 ∧ Sx.look tm 0 = .p R.k R.b 0)
    (1 + z).toNat ⟨hle2, 1 + z, _, p2, rfl, by omega, by omega, Or.inl ⟨by omega, rfl, rfl⟩, rfl, by omega, by omega, by simp; omega, by simp [Sx.look], by simp [Sx.look], by simp [Sx.look]⟩ ?_
  rintro q cx3 tm mem3 ⟨hle3, i, s3, p3, rfl, i0, i1, hD, hf3, a1, a2, a3, j4, j3, j0⟩
  refine ⟨400, ?_⟩
  by_cases hi : 0 < i
  · have hw2 : IntKind.i64.wrap (i - 1) = i - 1 := wrap_i64 (by omega) (by omega)
    have fin : ∀ cx5 s5 p5 mem5, Le cx cx5 → Pl (factF cx5) R mem b s5 p5 mem5 → p3 ≤ p5 → p5 ≤ p3 + 300001 → s5.xs.length ≤ s3.xs.length + 1000 → s5.forks = 0 →
        Le cx cx5 ∧ (0 ≤ i - 1 ∧ i - 1 ≤ 3) ∧ Pl (factF cx5) R mem b s5 p5 mem5 ∧ s5.forks = 0 ∧ p ≤ p5 ∧ p5 ≤ p + 2 + 300001 * (3 - (i - 1)) ∧ (s5.xs.length : Int) ≤ 1000 * (3 - (i - 1)) := by
      intro cx5 s5 p5 mem5 h1 h2 h3 h4 h5 h6
      exact ⟨h1, ⟨by omega, by omega⟩, h2, h6, by omega, by omega, by omega⟩
    rcases hD with ⟨-, rfl, rfl⟩ | hP3
    · simp (maxSteps := 4000000) -dsimp [-List.all_eq_true, -Array.all_eq_true, -Bool.exists_bool, -Bool.forall_bool, vcsE1, vcsE2, vcsE3, vcsE4, vcsE5, vcsE6, vcsE7, vcsE8, vcsE9, vcsE10, vcsE11, vcsE12, vcsE13, vcsE14, vcsE15, vcsE16, vcsE17, vcsE18, vcsE19, Sx.get, Sx.look, Sx.put, pureFn, findOrd, unF, dstOk, isFloatT, endVC, resFn, packC, newFn, storeFn, buildFn, undef, known, aggT, cellsC, Value.cells, findCon, Con.pure, Con.some, allV, partsV, partsC, fillL, Sx.exitTo, fAr, C.one, Value.oneCell', eqFn, eqFieldsFn, eqElemsFn, partFn, and_assoc, List.zipIdx, sliceFn, boundFn, AppV, CopyV, MakeSliceV, NewsV, GrowV, TextV, bytesL, notInt, typeAt, argAt, Con.read, Con.make, Con.ext, Con.rel, den, Con.extS, Con.draw, Con.step, Draws.steps, Try.f53, pickC, rungU, hlt, j4, j3, j0, hi]
      refine pickC_at hR hty hle3 ⟨by omega, by omega⟩ (by omega) ?_
      rintro cx4 _ p4 hle4 - d1 d2 ⟨v, rfl, v0, v1⟩
      simp (maxSteps := 4000000) -dsimp [-List.all_eq_true, -Array.all_eq_true, -Bool.exists_bool, -Bool.forall_bool, vcsE1, vcsE2, vcsE3, vcsE4, vcsE5, vcsE6, vcsE7, vcsE8, vcsE9, vcsE10, vcsE11, vcsE12, vcsE13, vcsE14, vcsE15, vcsE16, vcsE17, vcsE18, vcsE19, Sx.get, Sx.look, Sx.put, pureFn, findOrd, unF, dstOk, isFloatT, endVC, resFn, packC, newFn, storeFn, buildFn, undef, known, aggT, cellsC, Value.cells, findCon, Con.pure, Con.some, allV, partsV, partsC, fillL, Sx.exitTo, fAr, C.one, Value.oneCell', eqFn, eqFieldsFn, eqElemsFn, partFn, and_assoc, List.zipIdx, sliceFn, boundFn, AppV, CopyV, MakeSliceV, NewsV, GrowV, TextV, bytesL, notInt, typeAt, argAt, Con.read, Con.make, Con.ext, Con.rel, den, Con.extS, Con.draw, Con.step, Draws.steps, Try.f53, pickC, rungU, hlt, j4, j3, j0, hi, Con.gen]
      refine rung_play (s := ⟨[], 0, 0, false, false⟩) (p := p4) hR hty hle4 ⟨_, denEq_new (b2 := ⟨b, [.p R.k R.b 0, .v (.slice none 0 0), .v (.int .i64 0), .v (.int .i64 0), .v (.bool false), .v (.bool false)], 95⟩) rfl rfl rfl, play_new hlt⟩ ⟨by omega, by omega⟩ (Nat.zero_le _) rfl ⟨by omega, by omega⟩ ?_
      rintro cx5 s5 p5 mem5 hle5 hP5 e1 e2 e3 e4 e5
      simp (maxSteps := 4000000) -dsimp [-List.all_eq_true, -Array.all_eq_true, -Bool.exists_bool, -Bool.forall_bool, vcsE1, vcsE2, vcsE3, vcsE4, vcsE5, vcsE6, vcsE7, vcsE8, vcsE9, vcsE10, vcsE11, vcsE12, vcsE13, vcsE14, vcsE15, vcsE16, vcsE17, vcsE18, vcsE19, Sx.get, Sx.look, Sx.put, pureFn, findOrd, unF, dstOk, isFloatT, endVC, resFn, packC, newFn, storeFn, buildFn, undef, known, aggT, cellsC, Value.cells, findCon, Con.pure, Con.some, allV, partsV, partsC, fillL, Sx.exitTo, fAr, C.one, Value.oneCell', eqFn, eqFieldsFn, eqElemsFn, partFn, and_assoc, List.zipIdx, sliceFn, boundFn, AppV, CopyV, MakeSliceV, NewsV, GrowV, TextV, bytesL, notInt, typeAt, argAt, Con.read, Con.make, Con.ext, Con.rel, den, Con.extS, Con.draw, Con.step, Draws.steps, Try.f53, pickC, rungU, hlt, j4, j3, j0, hi, hw2]
      exact ⟨mem5.length, (i - 1).toNat, by omega, hle5, i - 1, rfl, by omega, by omega, s5, p5, Or.inr (by rw [List.take_of_length_le (by simp)]; exact hP5), e5, by omega, by omega, by simp at e4; omega, rfl⟩
    · simp (maxSteps := 4000000) -dsimp [-List.all_eq_true, -Array.all_eq_true, -Bool.exists_bool, -Bool.forall_bool, vcsE1, vcsE2, vcsE3, vcsE4, vcsE5, vcsE6, vcsE7, vcsE8, vcsE9, vcsE10, vcsE11, vcsE12, vcsE13, vcsE14, vcsE15, vcsE16, vcsE17, vcsE18, vcsE19, Sx.get, Sx.look, Sx.put, pureFn, findOrd, unF, dstOk, isFloatT, endVC, resFn, packC, newFn, storeFn, buildFn, undef, known, aggT, cellsC, Value.cells, findCon, Con.pure, Con.some, allV, partsV, partsC, fillL, Sx.exitTo, fAr, C.one, Value.oneCell', eqFn, eqFieldsFn, eqElemsFn, partFn, and_assoc, List.zipIdx, sliceFn, boundFn, AppV, CopyV, MakeSliceV, NewsV, GrowV, TextV, bytesL, notInt, typeAt, argAt, Con.read, Con.make, Con.ext, Con.rel, den, Con.extS, Con.draw, Con.step, Draws.steps, Try.f53, pickC, rungU, hlt, j4, j3, j0, hi]
      refine pick_play hR hty hle3 hP3 (by omega) (by omega) ?_
      rintro cx4 _ p4 mem4 hle4 hP4 d1 d2 ⟨v, rfl, v0, v1⟩
      simp (maxSteps := 4000000) -dsimp [-List.all_eq_true, -Array.all_eq_true, -Bool.exists_bool, -Bool.forall_bool, vcsE1, vcsE2, vcsE3, vcsE4, vcsE5, vcsE6, vcsE7, vcsE8, vcsE9, vcsE10, vcsE11, vcsE12, vcsE13, vcsE14, vcsE15, vcsE16, vcsE17, vcsE18, vcsE19, Sx.get, Sx.look, Sx.put, pureFn, findOrd, unF, dstOk, isFloatT, endVC, resFn, packC, newFn, storeFn, buildFn, undef, known, aggT, cellsC, Value.cells, findCon, Con.pure, Con.some, allV, partsV, partsC, fillL, Sx.exitTo, fAr, C.one, Value.oneCell', eqFn, eqFieldsFn, eqElemsFn, partFn, and_assoc, List.zipIdx, sliceFn, boundFn, AppV, CopyV, MakeSliceV, NewsV, GrowV, TextV, bytesL, notInt, typeAt, argAt, Con.read, Con.make, Con.ext, Con.rel, den, Con.extS, Con.draw, Con.step, Draws.steps, Try.f53, pickC, rungU, hlt, j4, j3, j0, hi, Con.gen]
      refine rung_play hR hty hle4 ⟨_, denEq_refl _, hP4⟩ ⟨by omega, by omega⟩ (by omega) hf3 ⟨by omega, by omega⟩ ?_
      rintro cx5 s5 p5 mem5 hle5 hP5 e1 e2 e3 e4 e5
      simp (maxSteps := 4000000) -dsimp [-List.all_eq_true, -Array.all_eq_true, -Bool.exists_bool, -Bool.forall_bool, vcsE1, vcsE2, vcsE3, vcsE4, vcsE5, vcsE6, vcsE7, vcsE8, vcsE9, vcsE10, vcsE11, vcsE12, vcsE13, vcsE14, vcsE15, vcsE16, vcsE17, vcsE18, vcsE19, Sx.get, Sx.look, Sx.put, pureFn, findOrd, unF, dstOk, isFloatT, endVC, resFn, packC, newFn, storeFn, buildFn, undef, known, aggT, cellsC, Value.cells, findCon, Con.pure, Con.some, allV, partsV, partsC, fillL, Sx.exitTo, fAr, C.one, Value.oneCell', eqFn, eqFieldsFn, eqElemsFn, partFn, and_assoc, List.zipIdx, sliceFn, boundFn, AppV, CopyV, MakeSliceV, NewsV, GrowV, TextV, bytesL, notInt, typeAt, argAt, Con.read, Con.make, Con.ext, Con.rel, den, Con.extS, Con.draw, Con.step, Draws.steps, Try.f53, pickC, rungU, hlt, j4, j3, j0, hi, hw2]
      exact ⟨mem5.length, (i - 1).toNat, by omega, hle5, i - 1, rfl, by omega, by omega, s5, p5, Or.inr (by rw [List.take_of_length_le (by simp)]; exact hP5), e5, by omega, by omega, by omega, rfl⟩
  · have hP3 : Pl (factF cx3) R mem b s3 p3 mem3 := by
      rcases hD with ⟨h, _⟩ | h
      · omega
      · exact h
    simp (maxSteps := 4000000) -dsimp [-List.all_eq_true, -Array.all_eq_true, -Bool.exists_bool, -Bool.forall_bool, vcsE1, vcsE2, vcsE3, vcsE4, vcsE5, vcsE6, vcsE7, vcsE8, vcsE9, vcsE10, vcsE11, vcsE12, vcsE13, vcsE14, vcsE15, vcsE16, vcsE17, vcsE18, vcsE19, Sx.get, Sx.look, Sx.put, pureFn, findOrd, unF, dstOk, isFloatT, endVC, resFn, packC, newFn, storeFn, buildFn, undef, known, aggT, cellsC, Value.cells, findCon, Con.pure, Con.some, allV, partsV, partsC, fillL, Sx.exitTo, fAr, C.one, Value.oneCell', eqFn, eqFieldsFn, eqElemsFn, partFn, and_assoc, List.zipIdx, sliceFn, boundFn, AppV, CopyV, MakeSliceV, NewsV, GrowV, TextV, bytesL, notInt, typeAt, argAt, Con.read, Con.make, Con.ext, Con.rel, den, Con.extS, Con.draw, Con.step, Draws.steps, Try.f53, pickC, rungU, hlt, j4, j3, j0, hi]
    refine pick_play hR hty hle3 hP3 (by omega) (by omega) ?_
    rintro cx4 _ p4 mem4 hle4 hP4 d1 d2 ⟨v, rfl, v0, v1⟩
    have hn4 := hP4.lt
    by_cases hv : v = 0
    · subst hv
      simp (maxSteps := 4000000) -dsimp [-List.all_eq_true, -Array.all_eq_true, -Bool.exists_bool, -Bool.forall_bool, vcsE1, vcsE2, vcsE3, vcsE4, vcsE5, vcsE6, vcsE7, vcsE8, vcsE9, vcsE10, vcsE11, vcsE12, vcsE13, vcsE14, vcsE15, vcsE16, vcsE17, vcsE18, vcsE19, Sx.get, Sx.look, Sx.put, pureFn, findOrd, unF, dstOk, isFloatT, endVC, resFn, packC, newFn, storeFn, buildFn, undef, known, aggT, cellsC, Value.cells, findCon, Con.pure, Con.some, allV, partsV, partsC, fillL, Sx.exitTo, fAr, C.one, Value.oneCell', eqFn, eqFieldsFn, eqElemsFn, partFn, and_assoc, List.zipIdx, sliceFn, boundFn, AppV, CopyV, MakeSliceV, NewsV, GrowV, TextV, bytesL, notInt, typeAt, argAt, Con.read, Con.make, Con.ext, Con.rel, den, Con.extS, Con.draw, Con.step, Draws.steps, Try.f53, pickC, rungU, hlt, j4, j3, j0, hi]
      refine loop_inv (σ := ⟨[pickC, rungU], []⟩) hmx (by kernel_rfl) (fun q cx' tm mem' => Le cx cx' ∧ ∃ (s' : PS) (p' : Int), q = 60 - s'.xs.length ∧ Pl (factF cx') R mem b s' p' mem' ∧ s'.forks = 0 ∧ p ≤ p' ∧ p' ≤ p + 1000000 + 300001 * s'.xs.length ∧ s'.xs.length ≤ 3000 ∧ Sx.look tm 3 = .p mem.length b 0 ∧ Sx.look tm 0 = .p R.k R.b 0)
        (60 - s3.xs.length) ⟨hle4, s3, p4, rfl, hP4, hf3, by omega, by omega, by omega, by first | exact j3 | simp [Sx.look, j3], by first | exact j0 | simp [Sx.look, j0]⟩ ?_
      rintro q cx5 tm5 mem5 ⟨hle5, s5, p5, rfl, hP5, f5, b1, b2, b3, k3, k0⟩
      refine ⟨400, ?_⟩
      have hn5 := hP5.lt
      obtain ⟨oc5, hk6, ho5⟩ := hP5.ex
      unfold playBlk at hk6
      have hk7 := (List.getElem?_eq_some_iff.1 hk6).2
      have ho6 := ho5
      rcases ho6 with ⟨rfl, hx0⟩ | ⟨ko, bo, cap, rows, pad, rfl, -⟩
      · have hx1 : s5.xs.length = 0 := by rw [hx0]; rfl
        simp (maxSteps := 4000000) -dsimp [-List.all_eq_true, -Array.all_eq_true, -Bool.exists_bool, -Bool.forall_bool, vcsE1, vcsE2, vcsE3, vcsE4, vcsE5, vcsE6, vcsE7, vcsE8, vcsE9, vcsE10, vcsE11, vcsE12, vcsE13, vcsE14, vcsE15, vcsE16, vcsE17, vcsE18, vcsE19, Sx.get, Sx.look, Sx.put, pureFn, findOrd, unF, dstOk, isFloatT, endVC, resFn, packC, newFn, storeFn, buildFn, undef, known, aggT, cellsC, Value.cells, findCon, Con.pure, Con.some, allV, partsV, partsC, fillL, Sx.exitTo, fAr, C.one, Value.oneCell', eqFn, eqFieldsFn, eqElemsFn, partFn, and_assoc, List.zipIdx, sliceFn, boundFn, AppV, CopyV, MakeSliceV, NewsV, GrowV, TextV, bytesL, notInt, typeAt, argAt, Con.read, Con.make, Con.ext, Con.rel, den, Con.extS, Con.draw, Con.step, Draws.steps, Try.f53, pickC, rungU, hlt, k3, k0, hn5, hk6, hk7]
        refine pick_play hR hty hle5 hP5 (by omega) (by omega) ?_
        rintro cx6 _ p6 mem6 hle6 hP6 g1 g2 ⟨u, rfl, u0, u1⟩
        simp (maxSteps := 4000000) -dsimp [-List.all_eq_true, -Array.all_eq_true, -Bool.exists_bool, -Bool.forall_bool, vcsE1, vcsE2, vcsE3, vcsE4, vcsE5, vcsE6, vcsE7, vcsE8, vcsE9, vcsE10, vcsE11, vcsE12, vcsE13, vcsE14, vcsE15, vcsE16, vcsE17, vcsE18, vcsE19, Sx.get, Sx.look, Sx.put, pureFn, findOrd, unF, dstOk, isFloatT, endVC, resFn, packC, newFn, storeFn, buildFn, undef, known, aggT, cellsC, Value.cells, findCon, Con.pure, Con.some, allV, partsV, partsC, fillL, Sx.exitTo, fAr, C.one, Value.oneCell', eqFn, eqFieldsFn, eqElemsFn, partFn, and_assoc, List.zipIdx, sliceFn, boundFn, AppV, CopyV, MakeSliceV, NewsV, GrowV, TextV, bytesL, notInt, typeAt, argAt, Con.read, Con.make, Con.ext, Con.rel, den, Con.extS, Con.draw, Con.step, Draws.steps, Try.f53, pickC, rungU, hlt, k3, k0, Con.gen]
        refine rung_play hR hty hle6 ⟨_, denEq_refl _, hP6⟩ ⟨by omega, by omega⟩ (by omega) f5 ⟨by omega, by omega⟩ ?_
        rintro cx7 s7 p7 mem7 hle7 hP7 e1 e2 e3 e4 e5
        simp (maxSteps := 4000000) -dsimp [-List.all_eq_true, -Array.all_eq_true, -Bool.exists_bool, -Bool.forall_bool, vcsE1, vcsE2, vcsE3, vcsE4, vcsE5, vcsE6, vcsE7, vcsE8, vcsE9, vcsE10, vcsE11, vcsE12, vcsE13, vcsE14, vcsE15, vcsE16, vcsE17, vcsE18, vcsE19, Sx.get, Sx.look, Sx.put, pureFn, findOrd, unF, dstOk, isFloatT, endVC, resFn, packC, newFn, storeFn, buildFn, undef, known, aggT, cellsC, Value.cells, findCon, Con.pure, Con.some, allV, partsV, partsC, fillL, Sx.exitTo, fAr, C.one, Value.oneCell', eqFn, eqFieldsFn, eqElemsFn, partFn, and_assoc, List.zipIdx, sliceFn, boundFn, AppV, CopyV, MakeSliceV, NewsV, GrowV, TextV, bytesL, notInt, typeAt, argAt, Con.read, Con.make, Con.ext, Con.rel, den, Con.extS, Con.draw, Con.step, Draws.steps, Try.f53, pickC, rungU, hlt, k3, k0]
        exact ⟨mem7.length, 60 - s7.xs.length, by omega, hle7, s7, rfl, p7, by rw [List.take_of_length_le (by simp)]; exact hP7, e5, by omega, by omega, by omega⟩
      · by_cases h60 : (s5.xs.length : Int) < 60
        · simp (maxSteps := 4000000) -dsimp [-List.all_eq_true, -Array.all_eq_true, -Bool.exists_bool, -Bool.forall_bool, vcsE1, vcsE2, vcsE3, vcsE4, vcsE5, vcsE6, vcsE7, vcsE8, vcsE9, vcsE10, vcsE11, vcsE12, vcsE13, vcsE14, vcsE15, vcsE16, vcsE17, vcsE18, vcsE19, Sx.get, Sx.look, Sx.put, pureFn, findOrd, unF, dstOk, isFloatT, endVC, resFn, packC, newFn, storeFn, buildFn, undef, known, aggT, cellsC, Value.cells, findCon, Con.pure, Con.some, allV, partsV, partsC, fillL, Sx.exitTo, fAr, C.one, Value.oneCell', eqFn, eqFieldsFn, eqElemsFn, partFn, and_assoc, List.zipIdx, sliceFn, boundFn, AppV, CopyV, MakeSliceV, NewsV, GrowV, TextV, bytesL, notInt, typeAt, argAt, Con.read, Con.make, Con.ext, Con.rel, den, Con.extS, Con.draw, Con.step, Draws.steps, Try.f53, pickC, rungU, hlt, k3, k0, hn5, hk6, hk7, h60]
          refine pick_play hR hty hle5 hP5 (by omega) (by omega) ?_
          rintro cx6 _ p6 mem6 hle6 hP6 g1 g2 ⟨u, rfl, u0, u1⟩
          simp (maxSteps := 4000000) -dsimp [-List.all_eq_true, -Array.all_eq_true, -Bool.exists_bool, -Bool.forall_bool, vcsE1, vcsE2, vcsE3, vcsE4, vcsE5, vcsE6, vcsE7, vcsE8, vcsE9, vcsE10, vcsE11, vcsE12, vcsE13, vcsE14, vcsE15, vcsE16, vcsE17, vcsE18, vcsE19, Sx.get, Sx.look, Sx.put, pureFn, findOrd, unF, dstOk, isFloatT, endVC, resFn, packC, newFn, storeFn, buildFn, undef, known, aggT, cellsC, Value.cells, findCon, Con.pure, Con.some, allV, partsV, partsC, fillL, Sx.exitTo, fAr, C.one, Value.oneCell', eqFn, eqFieldsFn, eqElemsFn, partFn, and_assoc, List.zipIdx, sliceFn, boundFn, AppV, CopyV, MakeSliceV, NewsV, GrowV, TextV, bytesL, notInt, typeAt, argAt, Con.read, Con.make, Con.ext, Con.rel, den, Con.extS, Con.draw, Con.step, Draws.steps, Try.f53, pickC, rungU, hlt, k3, k0, Con.gen]
          refine rung_play hR hty hle6 ⟨_, denEq_refl _, hP6⟩ ⟨by omega, by omega⟩ (by omega) f5 ⟨by omega, by omega⟩ ?_
          rintro cx7 s7 p7 mem7 hle7 hP7 e1 e2 e3 e4 e5
          simp (maxSteps := 4000000) -dsimp [-List.all_eq_true, -Array.all_eq_true, -Bool.exists_bool, -Bool.forall_bool, vcsE1, vcsE2, vcsE3, vcsE4, vcsE5, vcsE6, vcsE7, vcsE8, vcsE9, vcsE10, vcsE11, vcsE12, vcsE13, vcsE14, vcsE15, vcsE16, vcsE17, vcsE18, vcsE19, Sx.get, Sx.look, Sx.put, pureFn, findOrd, unF, dstOk, isFloatT, endVC, resFn, packC, newFn, storeFn, buildFn, undef, known, aggT, cellsC, Value.cells, findCon, Con.pure, Con.some, allV, partsV, partsC, fillL, Sx.exitTo, fAr, C.one, Value.oneCell', eqFn, eqFieldsFn, eqElemsFn, partFn, and_assoc, List.zipIdx, sliceFn, boundFn, AppV, CopyV, MakeSliceV, NewsV, GrowV, TextV, bytesL, notInt, typeAt, argAt, Con.read, Con.make, Con.ext, Con.rel, den, Con.extS, Con.draw, Con.step, Draws.steps, Try.f53, pickC, rungU, hlt, k3, k0]
          exact ⟨mem7.length, 60 - s7.xs.length, by omega, hle7, s7, rfl, p7, by rw [List.take_of_length_le (by simp)]; exact hP7, e5, by omega, by omega, by omega⟩
        · simp (maxSteps := 4000000) -dsimp [-List.all_eq_true, -Array.all_eq_true, -Bool.exists_bool, -Bool.forall_bool, vcsE1, vcsE2, vcsE3, vcsE4, vcsE5, vcsE6, vcsE7, vcsE8, vcsE9, vcsE10, vcsE11, vcsE12, vcsE13, vcsE14, vcsE15, vcsE16, vcsE17, vcsE18, vcsE19, Sx.get, Sx.look, Sx.put, pureFn, findOrd, unF, dstOk, isFloatT, endVC, resFn, packC, newFn, storeFn, buildFn, undef, known, aggT, cellsC, Value.cells, findCon, Con.pure, Con.some, allV, partsV, partsC, fillL, Sx.exitTo, fAr, C.one, Value.oneCell', eqFn, eqFieldsFn, eqElemsFn, partFn, and_assoc, List.zipIdx, sliceFn, boundFn, AppV, CopyV, MakeSliceV, NewsV, GrowV, TextV, bytesL, notInt, typeAt, argAt, Con.read, Con.make, Con.ext, Con.rel, den, Con.extS, Con.draw, Con.step, Draws.steps, Try.f53, pickC, rungU, hlt, k3, k0, hn5, hk6, hk7, h60]
          exact play_end hP5 ho5 hle5 (by omega) (by omega) (by omega)
    · obtain ⟨oc4, hk4, ho4⟩ := hP4.ex
      unfold playBlk at hk4
      have hk5 := (List.getElem?_eq_some_iff.1 hk4).2
      simp (maxSteps := 4000000) -dsimp [-List.all_eq_true, -Array.all_eq_true, -Bool.exists_bool, -Bool.forall_bool, vcsE1, vcsE2, vcsE3, vcsE4, vcsE5, vcsE6, vcsE7, vcsE8, vcsE9, vcsE10, vcsE11, vcsE12, vcsE13, vcsE14, vcsE15, vcsE16, vcsE17, vcsE18, vcsE19, Sx.get, Sx.look, Sx.put, pureFn, findOrd, unF, dstOk, isFloatT, endVC, resFn, packC, newFn, storeFn, buildFn, undef, known, aggT, cellsC, Value.cells, findCon, Con.pure, Con.some, allV, partsV, partsC, fillL, Sx.exitTo, fAr, C.one, Value.oneCell', eqFn, eqFieldsFn, eqElemsFn, partFn, and_assoc, List.zipIdx, sliceFn, boundFn, AppV, CopyV, MakeSliceV, NewsV, GrowV, TextV, bytesL, notInt, typeAt, argAt, Con.read, Con.make, Con.ext, Con.rel, den, Con.extS, Con.draw, Con.step, Draws.steps, Try.f53, pickC, rungU, hlt, j4, j3, j0, hi, hv, hn4, hk4, hk5]
      exact play_end hP4 ho4 hle4 (by omega) (by omega) (by omega)
def l7SureC_S : Draws Try.prog 88 1100000000 53 where
  ι := Unit
  A := fun (_u : Unit) => []
  pre := fun (_u : Unit) (F : Facts) => True
  post := fun (_u : Unit) (v : Value) (F : Facts) => ∃ xs, IsList F v xs ∧ xs.length ≤ 5000 ∧ (∀ x ∈ xs, x.args.length ≤ 3)
  mono := fun _ _ _ _ _ => trivial
  enter := Try.call53
  h := fun _u R p cx mem w h1 h2 h3 h4 h5 h6 => l7SureC_c  R p cx mem w h1 h2 h3 h4 h5 h6
def l7SureC : Con Try.prog := Con.draw l7SureC_S
theorem l7SureC_at  {d : Nat} {R : Rdr} {cx0 cx : Cx} {mem0 : List Blk} {ex : List Blk} {K : Cx → C → List Blk → Prop} {p : Int} (hR : R.Is (factF cx0) mem0) (hty : R.ty = 88) (hle : Le cx0 cx) (hp : 0 ≤ p ∧ p + 1100000000 ≤ 1125899906842624) (hpre : True)
    (h : ∀ cx' v p', Le cx0 cx' → Le cx cx' → p ≤ p' → p' ≤ p + 1100000000 → (∃ xs, IsList (factF cx') v xs ∧ xs.length ≤ 5000 ∧ (∀ x ∈ xs, x.args.length ≤ 3)) → K cx' (.v v) (mem0.set R.k (R.blk p') ++ ex)) :
    DrawV d l7SureC_S cx [.p R.k R.b 0] (mem0.set R.k (R.blk p) ++ ex) K := DrawV.at (S := l7SureC_S) hR hty hle () hp hpre h
theorem l7SureC_at0  {d : Nat} {R : Rdr} {cx0 cx : Cx} {mem0 : List Blk} {K : Cx → C → List Blk → Prop} {p : Int} (hR : R.Is (factF cx0) mem0) (hty : R.ty = 88) (hle : Le cx0 cx) (hp : 0 ≤ p ∧ p + 1100000000 ≤ 1125899906842624) (hpre : True)
    (h : ∀ cx' v p', Le cx0 cx' → Le cx cx' → p ≤ p' → p' ≤ p + 1100000000 → (∃ xs, IsList (factF cx') v xs ∧ xs.length ≤ 5000 ∧ (∀ x ∈ xs, x.args.length ≤ 3)) → K cx' (.v v) (mem0.set R.k (R.blk p'))) :
    DrawV d l7SureC_S cx [.p R.k R.b 0] (mem0.set R.k (R.blk p)) K := DrawV.at0 (S := l7SureC_S) hR hty hle () hp hpre h
end Go.Proofs.Ytfhnbdlkiemaeaa
