/-
  The law of timers, walked.
-/
import Derived.Test.YtmiicjgbhkjocaaDr
import Derived.Test.YtmiicjgbhkjocaaAc
set_option linter.unusedVariables false
set_option linter.unusedSimpArgs false
set_option maxRecDepth 100000
set_option maxHeartbeats 4000000
namespace Go.Proofs.Ytmiicjgbhkjocaa
open Go Go.Sx

theorem lessC_c (a b : Int) (w : World) : Calls Try.prog 37 #[.int .i64 a, .int .i64 b] w fun e w' => e = .returned (.int .i64 (min a b)) ∧ RowKit.Below w.heap.size w w' := by
  refine (plain_of_vcs ⟨[], []⟩ hmx Try.func37 rfl (by kernel_rfl) (args := [.int .i64 a, .int .i64 b]) (by simp [Try.ntmps37]) w (· = .int .i64 (min a b)) 400 ?_).mono fun e w' ⟨v, h1, h2, h3⟩ => ⟨h2 ▸ h1, h3⟩
  by_cases h : a < b
  · have e : min a b = a := by omega
    simp (maxSteps := 4000000) -dsimp [-List.all_eq_true, -Array.all_eq_true, -Bool.exists_bool, -Bool.forall_bool, vcsE1, vcsE2, vcsE3, vcsE4, vcsE5, vcsE6, vcsE7, vcsE8, vcsE9, vcsE10, vcsE11, vcsE12, vcsE13, vcsE14, vcsE15, vcsE16, vcsE17, vcsE18, vcsE19, Sx.get, Sx.look, Sx.put, pureFn, findOrd, unF, dstOk, isFloatT, endVC, resFn, packC, newFn, storeFn, buildFn, undef, known, aggT, cellsC, Value.cells, findCon, Con.pure, Con.some, allV, partsV, partsC, fillL, Sx.exitTo, fAr, C.one, Value.oneCell', eqFn, eqFieldsFn, eqElemsFn, partFn, and_assoc, List.zipIdx, sliceFn, boundFn, AppV, CopyV, MakeSliceV, NewsV, GrowV, TextV, bytesL, notInt, typeAt, argAt, Con.read, Con.make, Con.ext, Con.rel, den, Con.extS, Con.draw, Con.step, Draws.steps, Try.f37, h, e]
  · have e : min a b = b := by omega
    simp (maxSteps := 4000000) -dsimp [-List.all_eq_true, -Array.all_eq_true, -Bool.exists_bool, -Bool.forall_bool, vcsE1, vcsE2, vcsE3, vcsE4, vcsE5, vcsE6, vcsE7, vcsE8, vcsE9, vcsE10, vcsE11, vcsE12, vcsE13, vcsE14, vcsE15, vcsE16, vcsE17, vcsE18, vcsE19, Sx.get, Sx.look, Sx.put, pureFn, findOrd, unF, dstOk, isFloatT, endVC, resFn, packC, newFn, storeFn, buildFn, undef, known, aggT, cellsC, Value.cells, findCon, Con.pure, Con.some, allV, partsV, partsC, fillL, Sx.exitTo, fAr, C.one, Value.oneCell', eqFn, eqFieldsFn, eqElemsFn, partFn, and_assoc, List.zipIdx, sliceFn, boundFn, AppV, CopyV, MakeSliceV, NewsV, GrowV, TextV, bytesL, notInt, typeAt, argAt, Con.read, Con.make, Con.ext, Con.rel, den, Con.extS, Con.draw, Con.step, Draws.steps, Try.f37, h, e]
def lessC : Con Try.prog := Con.pure 37 Try.call37 (fun (i : ((Int) × (Int))) => match i with | (a, b) => [.int .i64 a, .int .i64 b]) (fun (i : ((Int) × (Int))) => match i with | (a, b) => True) (fun (i : ((Int) × (Int))) => match i with | (a, b) => .int .i64 (min a b)) fun i w _ => lessC_c i.1 i.2 w
theorem since_step {since p dt : Int} (h : p = 0 → since = 0) : (sinceNext since p dt false = if since < p then since + dt else since) := by unfold sinceNext; simp
theorem lawActTimerC_c (o : Option Addr) (cap : Nat) (bs : List Int) (w : World) (hpre : RdB (factF ⟨w, [], w, []⟩) o bs ∧ bs.length ≤ 9223372036854775807 ∧ (∀ b ∈ bs, 0 ≤ b ∧ b < 256)) : Calls Try.prog 8 #[.slice o bs.length cap] w fun e w' => e = .returned (.bool true) ∧ RowKit.Below w.heap.size w w' := by
  refine (plain_of_vcs ⟨[actDoC, lessC], []⟩ hmx Try.func8 rfl (by kernel_rfl) (args := [.slice o bs.length cap]) (by simp [Try.ntmps8]) w (· = .bool true) 400 ?_).mono fun e w' ⟨v, h1, h2, h3⟩ => ⟨h2 ▸ h1, h3⟩
  obtain ⟨h, hl, hb⟩ := hpre
  by_cases hs : bs.length ≤ 1048576 ∧ 1 ≤ bs.length
  · have hs1 : ¬ (1048576 : Int) < bs.length := by omega
    have hs2 : ¬ (bs.length : Int) < 1 := by omega
    have hs3 : (0 : Int) < bs.length := by omega
    have hs4 : 0 < bs.length := by omega
    obtain ⟨p, hy⟩ : ∃ y, bs[0]? = some y := ⟨bs[0]'(by omega), by simp [show 0 < bs.length by omega]⟩
    have hyb := hb p (List.mem_of_getElem? hy)
    have e1 : IntKind.i64.wrap p = p := wrap_i64 (by omega) (by omega)
    have hld : RdB (factF ⟨w, [], w, []⟩) o bs := h
    simp (maxSteps := 4000000) -dsimp [-List.all_eq_true, -Array.all_eq_true, -Bool.exists_bool, -Bool.forall_bool, vcsE1, vcsE2, vcsE3, vcsE4, vcsE5, vcsE6, vcsE7, vcsE8, vcsE9, vcsE10, vcsE11, vcsE12, vcsE13, vcsE14, vcsE15, vcsE16, vcsE17, vcsE18, vcsE19, Sx.get, Sx.look, Sx.put, pureFn, findOrd, unF, dstOk, isFloatT, endVC, resFn, packC, newFn, storeFn, buildFn, undef, known, aggT, cellsC, Value.cells, findCon, Con.pure, Con.some, allV, partsV, partsC, fillL, Sx.exitTo, fAr, C.one, Value.oneCell', eqFn, eqFieldsFn, eqElemsFn, partFn, and_assoc, List.zipIdx, sliceFn, boundFn, AppV, CopyV, MakeSliceV, NewsV, GrowV, TextV, bytesL, notInt, typeAt, argAt, Con.read, Con.make, Con.ext, Con.rel, den, Con.extS, Con.draw, Con.step, Draws.steps, Try.f8, actDoC, lessC, hs1, hs2, hs3, hld.there (i := 0) (by omega), hld.ld0 _ hy, e1, hs4]
    have p0 : 0 ≤ p := by omega
    have p1 : p < 256 := by omega
    intro b3 cx1 q1 hle1 hl1 b4 cx2 q2 hle2 hl2 b5 cx3 q3 hle3 hl3 b6 b7
    have g1 : RdD (factF cx3) q1 [⟨7, 3, 0⟩, ⟨11, p, 0⟩] := ((hl1.devs [⟨7, 3, 0⟩, ⟨11, p, 0⟩] rfl).mono (sub_new cx1)).mono (hle2.fact.trans hle3.fact)
    have g2 : RdD (factF cx3) q2 [⟨7, 4, 0⟩, ⟨11, p, 0⟩] := ((hl2.devs [⟨7, 4, 0⟩, ⟨11, p, 0⟩] rfl).mono (sub_new cx2)).mono hle3.fact
    have g3 : RdD (factF cx3) q3 [⟨7, 5, 0⟩, ⟨11, p, 0⟩] := (hl3.devs [⟨7, 5, 0⟩, ⟨11, p, 0⟩] rfl).mono (sub_new cx3)
    have g0 : RdB (factF cx3) o bs := h.mono (hle1.fact.trans (hle2.fact.trans hle3.fact))
    have hw := (hle1.trans (hle2.trans hle3)).w0
    have hg := (hle1.trans (hle2.trans hle3)).g0
    clear hl1 hl2 hl3 hle1 hle2 hle3 h hld
    refine loop_inv (σ := ⟨[actDoC, lessC], []⟩) hmx (by kernel_rfl) (fun q cx tm mem => cx = cx3 ∧ ∃ (i : Nat) (m : M) (done : Bool) (run all since : Int), i ≤ bs.length ∧ 1 ≤ i ∧ i ≤ 2000 ∧ (0 ≤ run ∧ run ≤ 63 * (i : Int)) ∧ (0 ≤ all ∧ all ≤ 63 * (i : Int)) ∧ (0 ≤ since ∧ since ≤ p + 63) ∧ (p = 0 → since = 0) ∧ q = bs.length - i ∧ TimI m p run all since done ∧ mem = [⟨b3, [.v (.int .i64 11), .v (.int .i64 p), .v (.int .i64 0)], 48⟩, ⟨b4, [.v (.int .i64 26), .v (.slice q1 2 2)], 70⟩, ⟨b5, [.v (.int .i64 27), .v (.slice q2 2 2)], 70⟩, ⟨b6, [.v (.int .i64 28), .v (.slice q3 2 2)], 70⟩, ⟨b7, cellC m, 43⟩] ∧
        Sx.look tm 13 = .v (.int .i64 i) ∧ Sx.look tm 12 = .v (.bool done) ∧ Sx.look tm 9 = .v (.int .i64 run) ∧ Sx.look tm 10 = .v (.int .i64 all) ∧ Sx.look tm 11 = .v (.int .i64 since) ∧ Sx.look tm 3 = .v (.int .i64 p) ∧ Sx.look tm 0 = .v (.slice o bs.length cap) ∧ Sx.look tm 4 = .p 0 b3 0 ∧ Sx.look tm 5 = .p 1 b4 0 ∧ Sx.look tm 6 = .p 2 b5 0 ∧ Sx.look tm 7 = .p 3 b6 0 ∧ Sx.look tm 8 = .p 4 b7 0)
      (bs.length - 1) ⟨rfl, 1, zeroM, false, 0, 0, p, by omega, by omega, by omega, by omega, by omega, by omega, by omega, rfl, tim_zero p0, rfl, by simp [Sx.look], by simp [Sx.look], by simp [Sx.look], by simp [Sx.look], by simp [Sx.look], by simp [Sx.look], by simp [Sx.look], by simp [Sx.look], by simp [Sx.look], by simp [Sx.look], by simp [Sx.look], by simp [Sx.look]⟩ ?_
    rintro q cx tm mem ⟨rfl, i, m, done, run, all, since, hi, hi1, hi2, hr, ha, hsi, hs0, rfl, hI, rfl, h13, h12, h9, h10, h11, h3, h0, h4, h5, h6, h7, h8⟩
    refine ⟨600, ?_⟩
    by_cases hlt : i < bs.length ∧ i < 2000
    · obtain ⟨x, hx⟩ : ∃ x, bs[i]? = some x := ⟨bs[i]'hlt.1, by simp [hlt.1]⟩
      have hxb := hb x (List.mem_of_getElem? hx)
      have hth := g0.there hlt.1
      have hlt1 := hlt.1
      have hlt2 : (i : Int) < 2000 := by omega
      have t1 : x.tdiv 4 = x / 4 := Int.tdiv_eq_ediv_of_nonneg hxb.1
      have t2 : IntKind.u8.wrap (x / 4) = x / 4 := wrap_u8 (by omega) (by omega)
      have t3 : IntKind.i64.wrap (x / 4) = x / 4 := wrap_i64 (by omega) (by omega)
      have t4 : IntKind.u16.wrap (x / 4) = x / 4 := wrap_u16 (by omega) (by omega)
      simp (maxSteps := 4000000) -dsimp [-List.all_eq_true, -Array.all_eq_true, -Bool.exists_bool, -Bool.forall_bool, vcsE1, vcsE2, vcsE3, vcsE4, vcsE5, vcsE6, vcsE7, vcsE8, vcsE9, vcsE10, vcsE11, vcsE12, vcsE13, vcsE14, vcsE15, vcsE16, vcsE17, vcsE18, vcsE19, Sx.get, Sx.look, Sx.put, pureFn, findOrd, unF, dstOk, isFloatT, endVC, resFn, packC, newFn, storeFn, buildFn, undef, known, aggT, cellsC, Value.cells, findCon, Con.pure, Con.some, allV, partsV, partsC, fillL, Sx.exitTo, fAr, C.one, Value.oneCell', eqFn, eqFieldsFn, eqElemsFn, partFn, and_assoc, List.zipIdx, sliceFn, boundFn, AppV, CopyV, MakeSliceV, NewsV, GrowV, TextV, bytesL, notInt, typeAt, argAt, Con.read, Con.make, Con.ext, Con.rel, den, Con.extS, Con.draw, Con.step, Draws.steps, Try.f8, actDoC, lessC, h13, h12, h9, h10, h11, h3, h0, h4, h5, h6, h7, h8, hlt1, hlt2, hth, g0.ld _ hx, t1, t2, t3, t4]
      have d0 : 0 ≤ x / 4 := by omega
      have d1 : x / 4 ≤ 63 := by omega
      generalize decide (0 < x.tmod 4) = cv
      generalize x / 4 = dt at *
      refine ⟨(m, 26, q1, 2, [⟨7, 3, 0⟩, ⟨11, p, 0⟩], cv, dt), rfl, ⟨g1.mono (sub_now _ _), hI.ok, by omega, by omega⟩, fun v hv => ?_⟩
      obtain ⟨m1, rfl, s1, k1⟩ := hv.ex
      simp (maxSteps := 4000000) -dsimp [-List.all_eq_true, -Array.all_eq_true, -Bool.exists_bool, -Bool.forall_bool, vcsE1, vcsE2, vcsE3, vcsE4, vcsE5, vcsE6, vcsE7, vcsE8, vcsE9, vcsE10, vcsE11, vcsE12, vcsE13, vcsE14, vcsE15, vcsE16, vcsE17, vcsE18, vcsE19, Sx.get, Sx.look, Sx.put, pureFn, findOrd, unF, dstOk, isFloatT, endVC, resFn, packC, newFn, storeFn, buildFn, undef, known, aggT, cellsC, Value.cells, findCon, Con.pure, Con.some, allV, partsV, partsC, fillL, Sx.exitTo, fAr, C.one, Value.oneCell', eqFn, eqFieldsFn, eqElemsFn, partFn, and_assoc, List.zipIdx, sliceFn, boundFn, AppV, CopyV, MakeSliceV, NewsV, GrowV, TextV, bytesL, notInt, typeAt, argAt, Con.read, Con.make, Con.ext, Con.rel, den, Con.extS, Con.draw, Con.step, Draws.steps, Try.f8, actDoC, lessC, h13, h12, h9, h10, h11, h3, h0, h4, h5, h6, h7, h8, t4]
      refine ⟨(m1, 27, q2, 2, [⟨7, 4, 0⟩, ⟨11, p, 0⟩], cv, dt), rfl, ⟨g2.mono (sub_now _ _), k1, by omega, by omega⟩, fun v hv => ?_⟩
      obtain ⟨m2, rfl, s2, k2⟩ := hv.ex
      simp (maxSteps := 4000000) -dsimp [-List.all_eq_true, -Array.all_eq_true, -Bool.exists_bool, -Bool.forall_bool, vcsE1, vcsE2, vcsE3, vcsE4, vcsE5, vcsE6, vcsE7, vcsE8, vcsE9, vcsE10, vcsE11, vcsE12, vcsE13, vcsE14, vcsE15, vcsE16, vcsE17, vcsE18, vcsE19, Sx.get, Sx.look, Sx.put, pureFn, findOrd, unF, dstOk, isFloatT, endVC, resFn, packC, newFn, storeFn, buildFn, undef, known, aggT, cellsC, Value.cells, findCon, Con.pure, Con.some, allV, partsV, partsC, fillL, Sx.exitTo, fAr, C.one, Value.oneCell', eqFn, eqFieldsFn, eqElemsFn, partFn, and_assoc, List.zipIdx, sliceFn, boundFn, AppV, CopyV, MakeSliceV, NewsV, GrowV, TextV, bytesL, notInt, typeAt, argAt, Con.read, Con.make, Con.ext, Con.rel, den, Con.extS, Con.draw, Con.step, Draws.steps, Try.f8, actDoC, lessC, h13, h12, h9, h10, h11, h3, h0, h4, h5, h6, h7, h8, t4]
      refine ⟨(m2, 28, q3, 2, [⟨7, 5, 0⟩, ⟨11, p, 0⟩], cv, dt), rfl, ⟨g3.mono (sub_now _ _), k2, by omega, by omega⟩, fun v hv => ?_⟩
      obtain ⟨m3, rfl, s3, k3⟩ := hv.ex
      obtain ⟨c1, c2, c3, c4⟩ := tim_step hI p0 (by omega) hr.1 ha.1 hsi.1 hs0 d0 s1 s2 s3 k3
      obtain ⟨r1, r2, r3, r4⟩ := tim_bd (v := cv) (i := i) p0 hr ha hsi hs0 ⟨d0, d1⟩
      have z1 : List.take 2 (List.drop 11 (cellC m3)) = [.v (.bool (m3.T 3).1), .v (.int .u16 (m3.T 3).2)] := get_TT m3 3 (by decide)
      have z2 : List.take 2 (List.drop 13 (cellC m3)) = [.v (.bool (m3.T 4).1), .v (.int .u16 (m3.T 4).2)] := get_TT m3 4 (by decide)
      have z3 : List.take 2 (List.drop 15 (cellC m3)) = [.v (.bool (m3.T 5).1), .v (.int .u16 (m3.T 5).2)] := get_TT m3 5 (by decide)
      rw [c1] at z1
      rw [c2] at z2
      rw [c3] at z3
      generalize (m3.T 5).2 = late at z3
      have w1 : IntKind.i64.wrap (run + dt) = run + dt := wrap_i64 (by omega) (by omega)
      have w2 : IntKind.i64.wrap (all + dt) = all + dt := wrap_i64 (by omega) (by omega)
      have w3 : IntKind.i64.wrap (since + dt) = since + dt := wrap_i64 (by omega) (by omega)
      have w4 : IntKind.i64.wrap (min (runNext run dt cv) p) = min (runNext run dt cv) p := wrap_i64 (by omega) (by omega)
      have w5 : IntKind.i64.wrap (min (allNext all dt cv) p) = min (allNext all dt cv) p := wrap_i64 (by omega) (by omega)
      have hone : min (0 : Int) p = 0 := by omega
      have w0 : IntKind.i64.wrap 0 = 0 := rfl
      cases cv
      · by_cases hsp : since < p
        · simp [runNext, allNext, sinceNext, doneNext, hsp] at c4 z1 z2 z3 w4 w5 r1 r2 r3 r4
          simp (maxSteps := 4000000) -dsimp [-List.all_eq_true, -Array.all_eq_true, -Bool.exists_bool, -Bool.forall_bool, vcsE1, vcsE2, vcsE3, vcsE4, vcsE5, vcsE6, vcsE7, vcsE8, vcsE9, vcsE10, vcsE11, vcsE12, vcsE13, vcsE14, vcsE15, vcsE16, vcsE17, vcsE18, vcsE19, Sx.get, Sx.look, Sx.put, pureFn, findOrd, unF, dstOk, isFloatT, endVC, resFn, packC, newFn, storeFn, buildFn, undef, known, aggT, cellsC, Value.cells, findCon, Con.pure, Con.some, allV, partsV, partsC, fillL, Sx.exitTo, fAr, C.one, Value.oneCell', eqFn, eqFieldsFn, eqElemsFn, partFn, and_assoc, List.zipIdx, sliceFn, boundFn, AppV, CopyV, MakeSliceV, NewsV, GrowV, TextV, bytesL, notInt, typeAt, argAt, Con.read, Con.make, Con.ext, Con.rel, den, Con.extS, Con.draw, Con.step, Draws.steps, Try.f8, actDoC, lessC, h13, h12, h9, h10, h11, h3, h0, h4, h5, h6, h7, h8, z1, z2, z3, w0, w1, w2, w3, w4, w5, hone, i_succ (i := i) (by omega), hsp]
          intro _ _ _
          exact ⟨5, bs.length - (i + 1), by omega, i + 1, by omega, by omega, by omega, _, _, _, by omega, by omega, _, by omega, by omega, _, by omega, by omega, by omega, rfl, c4, rfl, by simp⟩
        · simp [runNext, allNext, sinceNext, doneNext, hsp] at c4 z1 z2 z3 w4 w5 r1 r2 r3 r4
          simp (maxSteps := 4000000) -dsimp [-List.all_eq_true, -Array.all_eq_true, -Bool.exists_bool, -Bool.forall_bool, vcsE1, vcsE2, vcsE3, vcsE4, vcsE5, vcsE6, vcsE7, vcsE8, vcsE9, vcsE10, vcsE11, vcsE12, vcsE13, vcsE14, vcsE15, vcsE16, vcsE17, vcsE18, vcsE19, Sx.get, Sx.look, Sx.put, pureFn, findOrd, unF, dstOk, isFloatT, endVC, resFn, packC, newFn, storeFn, buildFn, undef, known, aggT, cellsC, Value.cells, findCon, Con.pure, Con.some, allV, partsV, partsC, fillL, Sx.exitTo, fAr, C.one, Value.oneCell', eqFn, eqFieldsFn, eqElemsFn, partFn, and_assoc, List.zipIdx, sliceFn, boundFn, AppV, CopyV, MakeSliceV, NewsV, GrowV, TextV, bytesL, notInt, typeAt, argAt, Con.read, Con.make, Con.ext, Con.rel, den, Con.extS, Con.draw, Con.step, Draws.steps, Try.f8, actDoC, lessC, h13, h12, h9, h10, h11, h3, h0, h4, h5, h6, h7, h8, z1, z2, z3, w0, w1, w2, w3, w4, w5, hone, i_succ (i := i) (by omega), hsp]
          intro _ _ _
          exact ⟨5, bs.length - (i + 1), by omega, i + 1, by omega, by omega, by omega, _, _, _, by omega, by omega, _, by omega, by omega, _, by omega, by omega, by omega, rfl, c4, rfl, by simp⟩
      · have hsp := trivial
        simp [runNext, allNext, sinceNext, doneNext] at c4 z1 z2 z3 w4 w5 r1 r2 r3 r4
        simp (maxSteps := 4000000) -dsimp [-List.all_eq_true, -Array.all_eq_true, -Bool.exists_bool, -Bool.forall_bool, vcsE1, vcsE2, vcsE3, vcsE4, vcsE5, vcsE6, vcsE7, vcsE8, vcsE9, vcsE10, vcsE11, vcsE12, vcsE13, vcsE14, vcsE15, vcsE16, vcsE17, vcsE18, vcsE19, Sx.get, Sx.look, Sx.put, pureFn, findOrd, unF, dstOk, isFloatT, endVC, resFn, packC, newFn, storeFn, buildFn, undef, known, aggT, cellsC, Value.cells, findCon, Con.pure, Con.some, allV, partsV, partsC, fillL, Sx.exitTo, fAr, C.one, Value.oneCell', eqFn, eqFieldsFn, eqElemsFn, partFn, and_assoc, List.zipIdx, sliceFn, boundFn, AppV, CopyV, MakeSliceV, NewsV, GrowV, TextV, bytesL, notInt, typeAt, argAt, Con.read, Con.make, Con.ext, Con.rel, den, Con.extS, Con.draw, Con.step, Draws.steps, Try.f8, actDoC, lessC, h13, h12, h9, h10, h11, h3, h0, h4, h5, h6, h7, h8, z1, z2, z3, w0, w1, w2, w3, w4, w5, hone, i_succ (i := i) (by omega)]
        intro _ _ _
        exact ⟨5, bs.length - (i + 1), by omega, i + 1, by omega, by omega, by omega, _, _, _, by omega, by omega, _, by omega, by omega, _, by omega, by omega, by omega, rfl, c4, rfl, by simp⟩
    · have hx : i = bs.length ∨ 2000 ≤ i := by omega
      rcases hx with rfl | hx
      · simp (maxSteps := 4000000) -dsimp [-List.all_eq_true, -Array.all_eq_true, -Bool.exists_bool, -Bool.forall_bool, vcsE1, vcsE2, vcsE3, vcsE4, vcsE5, vcsE6, vcsE7, vcsE8, vcsE9, vcsE10, vcsE11, vcsE12, vcsE13, vcsE14, vcsE15, vcsE16, vcsE17, vcsE18, vcsE19, Sx.get, Sx.look, Sx.put, pureFn, findOrd, unF, dstOk, isFloatT, endVC, resFn, packC, newFn, storeFn, buildFn, undef, known, aggT, cellsC, Value.cells, findCon, Con.pure, Con.some, allV, partsV, partsC, fillL, Sx.exitTo, fAr, C.one, Value.oneCell', eqFn, eqFieldsFn, eqElemsFn, partFn, and_assoc, List.zipIdx, sliceFn, boundFn, AppV, CopyV, MakeSliceV, NewsV, GrowV, TextV, bytesL, notInt, typeAt, argAt, Con.read, Con.make, Con.ext, Con.rel, den, Con.extS, Con.draw, Con.step, Draws.steps, Try.f8, actDoC, lessC, h13, h12, h9, h10, h11, h3, h0, h4, h5, h6, h7, h8, hw, hg]
      · have h2 : ¬ (i : Int) < 2000 := by omega
        simp (maxSteps := 4000000) -dsimp [-List.all_eq_true, -Array.all_eq_true, -Bool.exists_bool, -Bool.forall_bool, vcsE1, vcsE2, vcsE3, vcsE4, vcsE5, vcsE6, vcsE7, vcsE8, vcsE9, vcsE10, vcsE11, vcsE12, vcsE13, vcsE14, vcsE15, vcsE16, vcsE17, vcsE18, vcsE19, Sx.get, Sx.look, Sx.put, pureFn, findOrd, unF, dstOk, isFloatT, endVC, resFn, packC, newFn, storeFn, buildFn, undef, known, aggT, cellsC, Value.cells, findCon, Con.pure, Con.some, allV, partsV, partsC, fillL, Sx.exitTo, fAr, C.one, Value.oneCell', eqFn, eqFieldsFn, eqElemsFn, partFn, and_assoc, List.zipIdx, sliceFn, boundFn, AppV, CopyV, MakeSliceV, NewsV, GrowV, TextV, bytesL, notInt, typeAt, argAt, Con.read, Con.make, Con.ext, Con.rel, den, Con.extS, Con.draw, Con.step, Draws.steps, Try.f8, actDoC, lessC, h13, h12, h9, h10, h11, h3, h0, h4, h5, h6, h7, h8, hw, hg, h2]
  · by_cases hs1 : (1048576 : Int) < bs.length
    · simp (maxSteps := 4000000) -dsimp [-List.all_eq_true, -Array.all_eq_true, -Bool.exists_bool, -Bool.forall_bool, vcsE1, vcsE2, vcsE3, vcsE4, vcsE5, vcsE6, vcsE7, vcsE8, vcsE9, vcsE10, vcsE11, vcsE12, vcsE13, vcsE14, vcsE15, vcsE16, vcsE17, vcsE18, vcsE19, Sx.get, Sx.look, Sx.put, pureFn, findOrd, unF, dstOk, isFloatT, endVC, resFn, packC, newFn, storeFn, buildFn, undef, known, aggT, cellsC, Value.cells, findCon, Con.pure, Con.some, allV, partsV, partsC, fillL, Sx.exitTo, fAr, C.one, Value.oneCell', eqFn, eqFieldsFn, eqElemsFn, partFn, and_assoc, List.zipIdx, sliceFn, boundFn, AppV, CopyV, MakeSliceV, NewsV, GrowV, TextV, bytesL, notInt, typeAt, argAt, Con.read, Con.make, Con.ext, Con.rel, den, Con.extS, Con.draw, Con.step, Draws.steps, Try.f8, actDoC, lessC, hs1]
    · have hs2 : (bs.length : Int) < 1 := by omega
      simp (maxSteps := 4000000) -dsimp [-List.all_eq_true, -Array.all_eq_true, -Bool.exists_bool, -Bool.forall_bool, vcsE1, vcsE2, vcsE3, vcsE4, vcsE5, vcsE6, vcsE7, vcsE8, vcsE9, vcsE10, vcsE11, vcsE12, vcsE13, vcsE14, vcsE15, vcsE16, vcsE17, vcsE18, vcsE19, Sx.get, Sx.look, Sx.put, pureFn, findOrd, unF, dstOk, isFloatT, endVC, resFn, packC, newFn, storeFn, buildFn, undef, known, aggT, cellsC, Value.cells, findCon, Con.pure, Con.some, allV, partsV, partsC, fillL, Sx.exitTo, fAr, C.one, Value.oneCell', eqFn, eqFieldsFn, eqElemsFn, partFn, and_assoc, List.zipIdx, sliceFn, boundFn, AppV, CopyV, MakeSliceV, NewsV, GrowV, TextV, bytesL, notInt, typeAt, argAt, Con.read, Con.make, Con.ext, Con.rel, den, Con.extS, Con.draw, Con.step, Draws.steps, Try.f8, actDoC, lessC, hs1, hs2]
def lawActTimerC_S : Reads Try.prog 8 where
  ι := ((Option Addr) × (Nat) × (List Int))
  A := fun (i : ((Option Addr) × (Nat) × (List Int))) => match i with | (o, cap, bs) => [.slice o bs.length cap]
  pre := fun (i : ((Option Addr) × (Nat) × (List Int))) (F : Facts) => match i with | (o, cap, bs) => RdB F o bs ∧ bs.length ≤ 9223372036854775807 ∧ (∀ b ∈ bs, 0 ≤ b ∧ b < 256)
  res := fun (i : ((Option Addr) × (Nat) × (List Int))) => match i with | (o, cap, bs) => .bool true
  mono := by
    intro i F G hs h
    first | exact h | exact h.mono hs | exact ⟨h.1.mono hs, h.2⟩ | exact ⟨h.1.mono hs, h.2.1.mono hs, h.2.2⟩ | exact ⟨h.1.mono hs, h.2.1.mono hs⟩
  uniq := by
    rintro ⟨o, cap, bs⟩ ⟨o', cap', bs'⟩ F hA h h'
    simp at hA
    (try simp only [Int.natCast_inj] at hA)
    obtain rfl : bs = bs' := RdB.uniq h.1 h'.1 (by simp_all) (by simp_all)
    simp_all
  enter := Try.call8
  h := fun i w hp => lawActTimerC_c i.1 i.2.1 i.2.2 w (by rw [factF_init]; exact hp)
def lawActTimerC : Con Try.prog := Con.read lawActTimerC_S
theorem lawActTimerC_rw {o : Option Addr} {cap : Nat} {bs : List Int} {d : Nat} {cx : Cx} {mem : List Blk} {K : C → Prop} (hpre : RdB (nowF cx mem) o bs ∧ bs.length ≤ 9223372036854775807 ∧ (∀ b ∈ bs, 0 ≤ b ∧ b < 256)) : ReadV d lawActTimerC_S cx [.v (.slice o bs.length cap)] mem K = K (.v (.bool true)) := lawActTimerC_S.eq (o, cap, bs) rfl hpre
end Go.Proofs.Ytmiicjgbhkjocaa
