/-
  The law of counters, walked.
-/
import Derived.Test.YtmiicjgbhkjocaaDr
import Derived.Test.YtmiicjgbhkjocaaAc
set_option linter.unusedVariables false
set_option linter.unusedSimpArgs false
set_option maxRecDepth 100000
set_option maxHeartbeats 4000000
namespace Go.Proofs.Ytmiicjgbhkjocaa
open Go Go.Sx

theorem lawActCountC_c (o : Option Addr) (cap : Nat) (bs : List Int) (w : World) (hpre : RdB (factF ⟨w, [], w, []⟩) o bs ∧ bs.length ≤ 9223372036854775807 ∧ (∀ b ∈ bs, 0 ≤ b ∧ b < 256)) : Calls Try.prog 7 #[.slice o bs.length cap] w fun e w' => e = .returned (.bool true) ∧ RowKit.Below w.heap.size w w' := by
  refine (plain_of_vcs ⟨[actDoC], []⟩ hmx Try.func7 rfl (by kernel_rfl) (args := [.slice o bs.length cap]) (by simp [Try.ntmps7]) w (· = .bool true) 400 ?_).mono fun e w' ⟨v, h1, h2, h3⟩ => ⟨h2 ▸ h1, h3⟩
  obtain ⟨h, hl, hb⟩ := hpre
  by_cases hs : bs.length ≤ 1048576 ∧ 1 ≤ bs.length
  · have hs1 : ¬ (1048576 : Int) < bs.length := by omega
    have hs2 : ¬ (bs.length : Int) < 1 := by omega
    have hs3 : (0 : Int) < bs.length := by omega
    have hs4 : 0 < bs.length := by omega
    obtain ⟨y, hy⟩ : ∃ y, bs[0]? = some y := ⟨bs[0]'(by omega), by simp [show 0 < bs.length by omega]⟩
    have hyb := hb y (List.mem_of_getElem? hy)
    have e1 : IntKind.i64.wrap y = y := wrap_i64 (by omega) (by omega)
    have hp : y.tmod 20 = y % 20 := Int.tmod_eq_emod_of_nonneg hyb.1
    have hld : RdB (factF ⟨w, [], w, []⟩) o bs := h
    simp (maxSteps := 4000000) -dsimp [-List.all_eq_true, -Array.all_eq_true, -Bool.exists_bool, -Bool.forall_bool, vcsE1, vcsE2, vcsE3, vcsE4, vcsE5, vcsE6, vcsE7, vcsE8, vcsE9, vcsE10, vcsE11, vcsE12, vcsE13, vcsE14, vcsE15, vcsE16, vcsE17, vcsE18, vcsE19, Sx.get, Sx.look, Sx.put, pureFn, findOrd, unF, dstOk, isFloatT, endVC, resFn, packC, newFn, storeFn, buildFn, undef, known, aggT, cellsC, Value.cells, findCon, Con.pure, Con.some, allV, partsV, partsC, fillL, Sx.exitTo, fAr, C.one, Value.oneCell', eqFn, eqFieldsFn, eqElemsFn, partFn, and_assoc, List.zipIdx, sliceFn, boundFn, AppV, CopyV, MakeSliceV, NewsV, GrowV, TextV, bytesL, notInt, typeAt, argAt, Con.read, Con.make, Con.ext, Con.rel, den, Con.extS, Con.draw, Con.step, Draws.steps, Try.f7, actDoC, hs1, hs2, hs3, hld.there (i := 0) (by omega), hld.ld0 _ hy, e1, hp, hs4]
    have p0 : 0 ≤ y % 20 := by omega
    have p1 : y % 20 < 20 := by omega
    generalize y % 20 = p at *
    intro b3 cx1 q1 hle1 hl1 b4 cx2 q2 hle2 hl2 b5 b6
    have g1 : RdD (factF cx2) q1 [⟨8, 2, 0⟩, ⟨11, p, 0⟩] := ((hl1.devs [⟨8, 2, 0⟩, ⟨11, p, 0⟩] rfl).mono (sub_new cx1)).mono hle2.fact
    have g2 : RdD (factF cx2) q2 [⟨8, 2, 0⟩] := (hl2.devs [⟨8, 2, 0⟩] rfl).mono (sub_new cx2)
    have g0 : RdB (factF cx2) o bs := h.mono (hle1.fact.trans hle2.fact)
    have hw := (hle1.trans hle2).w0
    have hg := (hle1.trans hle2).g0
    clear hl1 hl2 hle1 hle2 h hld
    refine loop_inv (σ := ⟨[actDoC], []⟩) hmx (by kernel_rfl) (fun q cx tm mem => cx = cx2 ∧ ∃ (i : Nat) (m : M) (was : Bool) (n : Int), i ≤ bs.length ∧ 1 ≤ i ∧ i ≤ 2000 ∧ 0 ≤ n ∧ n ≤ i ∧ q = bs.length - i ∧ CntI m n was ∧ mem = [⟨b3, [.v (.int .i64 8), .v (.int .i64 2), .v (.int .i64 0)], 48⟩, ⟨b4, [.v (.int .i64 29), .v (.slice q1 2 2)], 70⟩, ⟨b5, [.v (.int .i64 23), .v (.slice q2 1 1)], 70⟩, ⟨b6, cellC m, 43⟩] ∧
        Sx.look tm 10 = .v (.int .i64 i) ∧ Sx.look tm 9 = .v (.bool was) ∧ Sx.look tm 8 = .v (.int .i64 n) ∧ Sx.look tm 3 = .v (.int .i64 p) ∧ Sx.look tm 0 = .v (.slice o bs.length cap) ∧ Sx.look tm 4 = .p 0 b3 0 ∧ Sx.look tm 5 = .p 1 b4 0 ∧ Sx.look tm 6 = .p 2 b5 0 ∧ Sx.look tm 7 = .p 3 b6 0)
      (bs.length - 1) ⟨rfl, 1, zeroM, false, 0, by omega, by omega, by omega, by omega, by omega, rfl, cnt_zero, rfl, by simp [Sx.look], by simp [Sx.look], by simp [Sx.look], by simp [Sx.look], by simp [Sx.look], by simp [Sx.look], by simp [Sx.look], by simp [Sx.look], by simp [Sx.look]⟩ ?_
    rintro q cx tm mem ⟨rfl, i, m, was, n, hi, hi1, hi2, hn0, hn1, rfl, hI, rfl, h10, h9, h8, h3, h0, h4, h5, h6, h7⟩
    refine ⟨400, ?_⟩
    by_cases hlt : i < bs.length ∧ i < 2000
    · obtain ⟨x, hx⟩ : ∃ x, bs[i]? = some x := ⟨bs[i]'hlt.1, by simp [hlt.1]⟩
      have hxb := hb x (List.mem_of_getElem? hx)
      have hth := g0.there hlt.1
      have hlt1 := hlt.1
      have hlt2 : (i : Int) < 2000 := by omega
      simp (maxSteps := 4000000) -dsimp [-List.all_eq_true, -Array.all_eq_true, -Bool.exists_bool, -Bool.forall_bool, vcsE1, vcsE2, vcsE3, vcsE4, vcsE5, vcsE6, vcsE7, vcsE8, vcsE9, vcsE10, vcsE11, vcsE12, vcsE13, vcsE14, vcsE15, vcsE16, vcsE17, vcsE18, vcsE19, Sx.get, Sx.look, Sx.put, pureFn, findOrd, unF, dstOk, isFloatT, endVC, resFn, packC, newFn, storeFn, buildFn, undef, known, aggT, cellsC, Value.cells, findCon, Con.pure, Con.some, allV, partsV, partsC, fillL, Sx.exitTo, fAr, C.one, Value.oneCell', eqFn, eqFieldsFn, eqElemsFn, partFn, and_assoc, List.zipIdx, sliceFn, boundFn, AppV, CopyV, MakeSliceV, NewsV, GrowV, TextV, bytesL, notInt, typeAt, argAt, Con.read, Con.make, Con.ext, Con.rel, den, Con.extS, Con.draw, Con.step, Draws.steps, Try.f7, actDoC, h10, h9, h8, h3, h0, h4, h5, h6, h7, hlt1, hlt2, hth, g0.ld _ hx]
      refine ⟨(m, 23, q2, 1, [⟨8, 2, 0⟩], decide (250 < x), 1), rfl, ⟨g2.mono (sub_now _ _), hI.ok, by omega, by omega⟩, fun v hv => ?_⟩
      obtain ⟨m1, rfl, s1, k1⟩ := hv.ex
      by_cases hx2 : 250 < x
      · have hd : decide (250 < x) = true := by simp [hx2]
        rw [hd] at s1
        simp (maxSteps := 4000000) -dsimp [-List.all_eq_true, -Array.all_eq_true, -Bool.exists_bool, -Bool.forall_bool, vcsE1, vcsE2, vcsE3, vcsE4, vcsE5, vcsE6, vcsE7, vcsE8, vcsE9, vcsE10, vcsE11, vcsE12, vcsE13, vcsE14, vcsE15, vcsE16, vcsE17, vcsE18, vcsE19, Sx.get, Sx.look, Sx.put, pureFn, findOrd, unF, dstOk, isFloatT, endVC, resFn, packC, newFn, storeFn, buildFn, undef, known, aggT, cellsC, Value.cells, findCon, Con.pure, Con.some, allV, partsV, partsC, fillL, Sx.exitTo, fAr, C.one, Value.oneCell', eqFn, eqFieldsFn, eqElemsFn, partFn, and_assoc, List.zipIdx, sliceFn, boundFn, AppV, CopyV, MakeSliceV, NewsV, GrowV, TextV, bytesL, notInt, typeAt, argAt, Con.read, Con.make, Con.ext, Con.rel, den, Con.extS, Con.draw, Con.step, Draws.steps, Try.f7, actDoC, h10, h9, h8, h3, h0, h4, h5, h6, h7, hx2, hlt1, hth, g0.ld _ hx]
        refine ⟨(m1, 29, q1, 2, [⟨8, 2, 0⟩, ⟨11, p, 0⟩], (x.tmod 2 == 1), 1), rfl, ⟨g1.mono (sub_now _ _), k1, by omega, by omega⟩, fun v hv => ?_⟩
        obtain ⟨m2, rfl, s2, k2⟩ := hv.ex
        generalize (x.tmod 2 == 1) = cv at *
        obtain ⟨c1, c2⟩ := cnt_step (r := true) hI (by omega) hn0 p0 (by omega) s1 k1 s2 k2
        have e2 : IntKind.i64.wrap (n + 1) = n + 1 := wrap_i64 (by omega) (by omega)
        have e3 : IntKind.i64.wrap n = n := wrap_i64 (by omega) (by omega)
        have e4 : IntKind.i64.wrap 1 = 1 := rfl
        have e5 : IntKind.i64.wrap 0 = 0 := rfl
        have z0 : (cellC m2)[43]? = some (.v (.bool (m2.C 2).1)) := get_C0 m2 2 (by decide)
        have z1 : (cellC m2)[44]? = some (.v (.bool (m2.C 2).2.1)) := get_C1 m2 2 (by decide)
        have z2 : (cellC m2)[45]? = some (.v (.int .u16 (m2.C 2).2.2)) := get_C2 m2 2 (by decide)
        rw [c1] at z0 z1 z2
        have f0 := fun h => (List.getElem_eq_iff (i := 43) (h := h)).2 z0
        have f1 := fun h => (List.getElem_eq_iff (i := 44) (h := h)).2 z1
        have f2 := fun h => (List.getElem_eq_iff (i := 45) (h := h)).2 z2
        cases cv <;> cases was
        all_goals
          simp [cntNext] at c2 z0 z1 z2 f0 f1 f2
          simp (maxSteps := 4000000) -dsimp [-List.all_eq_true, -Array.all_eq_true, -Bool.exists_bool, -Bool.forall_bool, vcsE1, vcsE2, vcsE3, vcsE4, vcsE5, vcsE6, vcsE7, vcsE8, vcsE9, vcsE10, vcsE11, vcsE12, vcsE13, vcsE14, vcsE15, vcsE16, vcsE17, vcsE18, vcsE19, Sx.get, Sx.look, Sx.put, pureFn, findOrd, unF, dstOk, isFloatT, endVC, resFn, packC, newFn, storeFn, buildFn, undef, known, aggT, cellsC, Value.cells, findCon, Con.pure, Con.some, allV, partsV, partsC, fillL, Sx.exitTo, fAr, C.one, Value.oneCell', eqFn, eqFieldsFn, eqElemsFn, partFn, and_assoc, List.zipIdx, sliceFn, boundFn, AppV, CopyV, MakeSliceV, NewsV, GrowV, TextV, bytesL, notInt, typeAt, argAt, Con.read, Con.make, Con.ext, Con.rel, den, Con.extS, Con.draw, Con.step, Draws.steps, Try.f7, actDoC, h10, h9, h8, h3, h0, h4, h5, h6, h7, hx2, z0, z1, z2, f0, f1, f2, e2, e3, e4, e5, i_succ (i := i) (by omega)]
          exact ⟨4, bs.length - (i + 1), by omega, i + 1, by omega, by omega, by omega, _, _, _, by omega, by omega, rfl, c2, rfl, by simp⟩
      · have hd : decide (250 < x) = false := by simp [hx2]
        rw [hd] at s1
        simp (maxSteps := 4000000) -dsimp [-List.all_eq_true, -Array.all_eq_true, -Bool.exists_bool, -Bool.forall_bool, vcsE1, vcsE2, vcsE3, vcsE4, vcsE5, vcsE6, vcsE7, vcsE8, vcsE9, vcsE10, vcsE11, vcsE12, vcsE13, vcsE14, vcsE15, vcsE16, vcsE17, vcsE18, vcsE19, Sx.get, Sx.look, Sx.put, pureFn, findOrd, unF, dstOk, isFloatT, endVC, resFn, packC, newFn, storeFn, buildFn, undef, known, aggT, cellsC, Value.cells, findCon, Con.pure, Con.some, allV, partsV, partsC, fillL, Sx.exitTo, fAr, C.one, Value.oneCell', eqFn, eqFieldsFn, eqElemsFn, partFn, and_assoc, List.zipIdx, sliceFn, boundFn, AppV, CopyV, MakeSliceV, NewsV, GrowV, TextV, bytesL, notInt, typeAt, argAt, Con.read, Con.make, Con.ext, Con.rel, den, Con.extS, Con.draw, Con.step, Draws.steps, Try.f7, actDoC, h10, h9, h8, h3, h0, h4, h5, h6, h7, hx2, hlt1, hth, g0.ld _ hx]
        refine ⟨(m1, 29, q1, 2, [⟨8, 2, 0⟩, ⟨11, p, 0⟩], (x.tmod 2 == 1), 1), rfl, ⟨g1.mono (sub_now _ _), k1, by omega, by omega⟩, fun v hv => ?_⟩
        obtain ⟨m2, rfl, s2, k2⟩ := hv.ex
        generalize (x.tmod 2 == 1) = cv at *
        obtain ⟨c1, c2⟩ := cnt_step (r := false) hI (by omega) hn0 p0 (by omega) s1 k1 s2 k2
        have e2 : IntKind.i64.wrap (n + 1) = n + 1 := wrap_i64 (by omega) (by omega)
        have e3 : IntKind.i64.wrap n = n := wrap_i64 (by omega) (by omega)
        have e4 : IntKind.i64.wrap 1 = 1 := rfl
        have e5 : IntKind.i64.wrap 0 = 0 := rfl
        have z0 : (cellC m2)[43]? = some (.v (.bool (m2.C 2).1)) := get_C0 m2 2 (by decide)
        have z1 : (cellC m2)[44]? = some (.v (.bool (m2.C 2).2.1)) := get_C1 m2 2 (by decide)
        have z2 : (cellC m2)[45]? = some (.v (.int .u16 (m2.C 2).2.2)) := get_C2 m2 2 (by decide)
        rw [c1] at z0 z1 z2
        have f0 := fun h => (List.getElem_eq_iff (i := 43) (h := h)).2 z0
        have f1 := fun h => (List.getElem_eq_iff (i := 44) (h := h)).2 z1
        have f2 := fun h => (List.getElem_eq_iff (i := 45) (h := h)).2 z2
        cases cv <;> cases was
        all_goals
          simp [cntNext] at c2 z0 z1 z2 f0 f1 f2
          simp (maxSteps := 4000000) -dsimp [-List.all_eq_true, -Array.all_eq_true, -Bool.exists_bool, -Bool.forall_bool, vcsE1, vcsE2, vcsE3, vcsE4, vcsE5, vcsE6, vcsE7, vcsE8, vcsE9, vcsE10, vcsE11, vcsE12, vcsE13, vcsE14, vcsE15, vcsE16, vcsE17, vcsE18, vcsE19, Sx.get, Sx.look, Sx.put, pureFn, findOrd, unF, dstOk, isFloatT, endVC, resFn, packC, newFn, storeFn, buildFn, undef, known, aggT, cellsC, Value.cells, findCon, Con.pure, Con.some, allV, partsV, partsC, fillL, Sx.exitTo, fAr, C.one, Value.oneCell', eqFn, eqFieldsFn, eqElemsFn, partFn, and_assoc, List.zipIdx, sliceFn, boundFn, AppV, CopyV, MakeSliceV, NewsV, GrowV, TextV, bytesL, notInt, typeAt, argAt, Con.read, Con.make, Con.ext, Con.rel, den, Con.extS, Con.draw, Con.step, Draws.steps, Try.f7, actDoC, h10, h9, h8, h3, h0, h4, h5, h6, h7, hx2, z0, z1, z2, f0, f1, f2, e2, e3, e4, e5, i_succ (i := i) (by omega)]
          exact ⟨4, bs.length - (i + 1), by omega, i + 1, by omega, by omega, by omega, _, _, _, by omega, by omega, rfl, c2, rfl, by simp⟩
    · have hx : i = bs.length ∨ 2000 ≤ i := by omega
      rcases hx with rfl | hx
      · simp (maxSteps := 4000000) -dsimp [-List.all_eq_true, -Array.all_eq_true, -Bool.exists_bool, -Bool.forall_bool, vcsE1, vcsE2, vcsE3, vcsE4, vcsE5, vcsE6, vcsE7, vcsE8, vcsE9, vcsE10, vcsE11, vcsE12, vcsE13, vcsE14, vcsE15, vcsE16, vcsE17, vcsE18, vcsE19, Sx.get, Sx.look, Sx.put, pureFn, findOrd, unF, dstOk, isFloatT, endVC, resFn, packC, newFn, storeFn, buildFn, undef, known, aggT, cellsC, Value.cells, findCon, Con.pure, Con.some, allV, partsV, partsC, fillL, Sx.exitTo, fAr, C.one, Value.oneCell', eqFn, eqFieldsFn, eqElemsFn, partFn, and_assoc, List.zipIdx, sliceFn, boundFn, AppV, CopyV, MakeSliceV, NewsV, GrowV, TextV, bytesL, notInt, typeAt, argAt, Con.read, Con.make, Con.ext, Con.rel, den, Con.extS, Con.draw, Con.step, Draws.steps, Try.f7, actDoC, h10, h9, h8, h3, h0, h4, h5, h6, h7, hw, hg]
      · have h2 : ¬ (i : Int) < 2000 := by omega
        simp (maxSteps := 4000000) -dsimp [-List.all_eq_true, -Array.all_eq_true, -Bool.exists_bool, -Bool.forall_bool, vcsE1, vcsE2, vcsE3, vcsE4, vcsE5, vcsE6, vcsE7, vcsE8, vcsE9, vcsE10, vcsE11, vcsE12, vcsE13, vcsE14, vcsE15, vcsE16, vcsE17, vcsE18, vcsE19, Sx.get, Sx.look, Sx.put, pureFn, findOrd, unF, dstOk, isFloatT, endVC, resFn, packC, newFn, storeFn, buildFn, undef, known, aggT, cellsC, Value.cells, findCon, Con.pure, Con.some, allV, partsV, partsC, fillL, Sx.exitTo, fAr, C.one, Value.oneCell', eqFn, eqFieldsFn, eqElemsFn, partFn, and_assoc, List.zipIdx, sliceFn, boundFn, AppV, CopyV, MakeSliceV, NewsV, GrowV, TextV, bytesL, notInt, typeAt, argAt, Con.read, Con.make, Con.ext, Con.rel, den, Con.extS, Con.draw, Con.step, Draws.steps, Try.f7, actDoC, h10, h9, h8, h3, h0, h4, h5, h6, h7, hw, hg, h2]
  · by_cases hs1 : (1048576 : Int) < bs.length
    · simp (maxSteps := 4000000) -dsimp [-List.all_eq_true, -Array.all_eq_true, -Bool.exists_bool, -Bool.forall_bool, vcsE1, vcsE2, vcsE3, vcsE4, vcsE5, vcsE6, vcsE7, vcsE8, vcsE9, vcsE10, vcsE11, vcsE12, vcsE13, vcsE14, vcsE15, vcsE16, vcsE17, vcsE18, vcsE19, Sx.get, Sx.look, Sx.put, pureFn, findOrd, unF, dstOk, isFloatT, endVC, resFn, packC, newFn, storeFn, buildFn, undef, known, aggT, cellsC, Value.cells, findCon, Con.pure, Con.some, allV, partsV, partsC, fillL, Sx.exitTo, fAr, C.one, Value.oneCell', eqFn, eqFieldsFn, eqElemsFn, partFn, and_assoc, List.zipIdx, sliceFn, boundFn, AppV, CopyV, MakeSliceV, NewsV, GrowV, TextV, bytesL, notInt, typeAt, argAt, Con.read, Con.make, Con.ext, Con.rel, den, Con.extS, Con.draw, Con.step, Draws.steps, Try.f7, actDoC, hs1]
    · have hs2 : (bs.length : Int) < 1 := by omega
      simp (maxSteps := 4000000) -dsimp [-List.all_eq_true, -Array.all_eq_true, -Bool.exists_bool, -Bool.forall_bool, vcsE1, vcsE2, vcsE3, vcsE4, vcsE5, vcsE6, vcsE7, vcsE8, vcsE9, vcsE10, vcsE11, vcsE12, vcsE13, vcsE14, vcsE15, vcsE16, vcsE17, vcsE18, vcsE19, Sx.get, Sx.look, Sx.put, pureFn, findOrd, unF, dstOk, isFloatT, endVC, resFn, packC, newFn, storeFn, buildFn, undef, known, aggT, cellsC, Value.cells, findCon, Con.pure, Con.some, allV, partsV, partsC, fillL, Sx.exitTo, fAr, C.one, Value.oneCell', eqFn, eqFieldsFn, eqElemsFn, partFn, and_assoc, List.zipIdx, sliceFn, boundFn, AppV, CopyV, MakeSliceV, NewsV, GrowV, TextV, bytesL, notInt, typeAt, argAt, Con.read, Con.make, Con.ext, Con.rel, den, Con.extS, Con.draw, Con.step, Draws.steps, Try.f7, actDoC, hs1, hs2]
def lawActCountC_S : Reads Try.prog 7 where
  ι := ((Option Addr) × (Nat) × (List Int))
  A := fun (i : ((Option Addr) × (Nat) × (List Int))) => match i with | (o, cap, bs) => [.slice o bs.length cap]
  pre := fun (i : ((Option Addr) × (Nat) × (List Int))) (F : Facts) => match i with | (o, cap, bs) => RdB F o bs ∧ bs.length ≤ 9223372036854775807 ∧ (∀ b ∈ bs, 0 ≤ b ∧ b < 256)
  res := fun (i : ((Option Addr) × (Nat) × (List Int))) => match i with | (o, cap, bs) => .bool true
  mono := by
    intro i F G hs h
    first | exact h | exact h.mono hs | exact ⟨h.1.mono hs, h.2⟩ | exact ⟨h.1.mono hs, h.2.1.mono hs, h.2.2⟩ | exact ⟨h.1.mono hs, h.2.1.mono hs⟩
  uniq := by
    rintro ⟨o, cap, bs⟩ ⟨o', cap', bs'⟩ F hA h h'
    simp at hA
    (try simp only [Int.natCast_inj] at hA)
    obtain rfl : bs = bs' := RdB.uniq h.1 h'.1 (by simp_all) (by simp_all)
    simp_all
  enter := Try.call7
  h := fun i w hp => lawActCountC_c i.1 i.2.1 i.2.2 w (by rw [factF_init]; exact hp)
def lawActCountC : Con Try.prog := Con.read lawActCountC_S
theorem lawActCountC_rw {o : Option Addr} {cap : Nat} {bs : List Int} {d : Nat} {cx : Cx} {mem : List Blk} {K : C → Prop} (hpre : RdB (nowF cx mem) o bs ∧ bs.length ≤ 9223372036854775807 ∧ (∀ b ∈ bs, 0 ≤ b ∧ b < 256)) : ReadV d lawActCountC_S cx [.v (.slice o bs.length cap)] mem K = K (.v (.bool true)) := lawActCountC_S.eq (o, cap, bs) rfl hpre
end Go.Proofs.Ytmiicjgbhkjocaa
