/-
  The law of steps, walked.
-/
import Derived.Test.YtmiicjgbhkjocaaLb
import Derived.Test.YtmiicjgbhkjocaaDr
import Derived.Test.YtmiicjgbhkjocaaAc
set_option linter.unusedVariables false
set_option linter.unusedSimpArgs false
set_option maxRecDepth 100000
set_option maxHeartbeats 4000000
namespace Go.Proofs.Ytmiicjgbhkjocaa
open Go Go.Sx

theorem lawAStepC_c (o : Option Addr) (cap : Nat) (bs : List Int) (w : World) (hpre : RdB (factF ⟨w, [], w, []⟩) o bs ∧ ((∀ b ∈ bs, 0 ≤ b ∧ b < 256) ∧ bs.length ≤ cap ∧ cap ≤ maxLen)) : Calls Try.prog 9 #[.slice o bs.length cap] w fun e w' => e = .returned (.bool true) ∧ RowKit.Below w.heap.size w w' := by
  refine (plain_of_vcs ⟨[drawActEndC, actDoC, memBitC, sMemBitC], []⟩ hmx Try.func9 rfl (by kernel_rfl) (args := [.slice o bs.length cap]) (by simp [Try.ntmps9]) w (· = .bool true) 400 ?_).mono fun e w' ⟨v, h1, h2, h3⟩ => ⟨h2 ▸ h1, h3⟩
  obtain ⟨h, hb⟩ := hpre
  by_cases hs : bs.length ≤ 1048576 ∧ 1 ≤ bs.length
  · have hs1 : ¬ (1048576 : Int) < bs.length := by omega
    have hs2 : ¬ (bs.length : Int) < 1 := by omega
    have hs3 : (0 : Int) < bs.length := by omega
    have hs4 : 0 < bs.length := by omega
    obtain ⟨y, hy⟩ : ∃ y, bs[0]? = some y := ⟨bs[0]'(by omega), by simp [show 0 < bs.length by omega]⟩
    have hyb := hb.1 y (List.mem_of_getElem? hy)
    have e1 : IntKind.i64.wrap y = y := wrap_i64 (by omega) (by omega)
    have hp : y.tmod 16 = y % 16 := Int.tmod_eq_emod_of_nonneg hyb.1
    have hld : RdB (factF ⟨w, [], w, []⟩) o bs := h
    simp (maxSteps := 4000000) -dsimp [-List.all_eq_true, -Array.all_eq_true, -Bool.exists_bool, -Bool.forall_bool, vcsE1, vcsE2, vcsE3, vcsE4, vcsE5, vcsE6, vcsE7, vcsE8, vcsE9, vcsE10, vcsE11, vcsE12, vcsE13, vcsE14, vcsE15, vcsE16, vcsE17, vcsE18, vcsE19, Sx.get, Sx.look, Sx.put, pureFn, findOrd, unF, dstOk, isFloatT, endVC, resFn, packC, newFn, storeFn, buildFn, undef, known, aggT, cellsC, Value.cells, findCon, Con.pure, Con.some, allV, partsV, partsC, fillL, Sx.exitTo, fAr, C.one, Value.oneCell', eqFn, eqFieldsFn, eqElemsFn, partFn, and_assoc, List.zipIdx, sliceFn, boundFn, AppV, CopyV, MakeSliceV, NewsV, GrowV, TextV, bytesL, notInt, typeAt, argAt, Con.read, Con.make, Con.ext, Con.rel, den, Con.extS, Con.draw, Con.step, Draws.steps, Try.f9, drawActEndC, actDoC, memBitC, sMemBitC, hs1, hs2]
    refine ⟨(o, cap, bs), rfl, ⟨h.mono (sub_now _ _), hb⟩, fun v hv => ?_⟩
    obtain ⟨m, rfl, hm⟩ := hv
    simp (maxSteps := 4000000) -dsimp [-List.all_eq_true, -Array.all_eq_true, -Bool.exists_bool, -Bool.forall_bool, vcsE1, vcsE2, vcsE3, vcsE4, vcsE5, vcsE6, vcsE7, vcsE8, vcsE9, vcsE10, vcsE11, vcsE12, vcsE13, vcsE14, vcsE15, vcsE16, vcsE17, vcsE18, vcsE19, Sx.get, Sx.look, Sx.put, pureFn, findOrd, unF, dstOk, isFloatT, endVC, resFn, packC, newFn, storeFn, buildFn, undef, known, aggT, cellsC, Value.cells, findCon, Con.pure, Con.some, allV, partsV, partsC, fillL, Sx.exitTo, fAr, C.one, Value.oneCell', eqFn, eqFieldsFn, eqElemsFn, partFn, and_assoc, List.zipIdx, sliceFn, boundFn, AppV, CopyV, MakeSliceV, NewsV, GrowV, TextV, bytesL, notInt, typeAt, argAt, Con.read, Con.make, Con.ext, Con.rel, den, Con.extS, Con.draw, Con.step, Draws.steps, Try.f9, drawActEndC, actDoC, memBitC, sMemBitC, hs3, hld.there (i := 0) (by omega), hld.ld0 _ hy, e1, hp, hs4]
    have p0 : 0 ≤ y % 16 := by omega
    have p1 : y % 16 < 16 := by omega
    generalize y % 16 = p at *
    intro b1 cx1 q1 hle1 hl1
    have g1 : RdD (factF cx1) q1 [⟨4, p, 0⟩] := (hl1.devs [⟨4, p, 0⟩] rfl).mono (sub_new cx1)
    refine ⟨(m, 25, q1, 1, [⟨4, p, 0⟩], true, 0), rfl, ⟨g1.mono (sub_now _ _), hm, by omega, by omega⟩, fun v hv => ?_⟩
    obtain ⟨m1, rfl, s1, k1⟩ := hv.ex
    have hw := hle1.w0
    have hg := hle1.g0
    have eb : ∀ i : Int, 0 ≤ i ∧ i < 16 → memBit m1 4 i = if i / 8 = p / 8 then decide (i = p) else memBit m 4 i := fun i hi => by
      rw [memBit_same s1, ← step_bit hm ⟨p0, p1⟩ hi]
      rfl
    simp (maxSteps := 4000000) -dsimp [-List.all_eq_true, -Array.all_eq_true, -Bool.exists_bool, -Bool.forall_bool, vcsE1, vcsE2, vcsE3, vcsE4, vcsE5, vcsE6, vcsE7, vcsE8, vcsE9, vcsE10, vcsE11, vcsE12, vcsE13, vcsE14, vcsE15, vcsE16, vcsE17, vcsE18, vcsE19, Sx.get, Sx.look, Sx.put, pureFn, findOrd, unF, dstOk, isFloatT, endVC, resFn, packC, newFn, storeFn, buildFn, undef, known, aggT, cellsC, Value.cells, findCon, Con.pure, Con.some, allV, partsV, partsC, fillL, Sx.exitTo, fAr, C.one, Value.oneCell', eqFn, eqFieldsFn, eqElemsFn, partFn, and_assoc, List.zipIdx, sliceFn, boundFn, AppV, CopyV, MakeSliceV, NewsV, GrowV, TextV, bytesL, notInt, typeAt, argAt, Con.read, Con.make, Con.ext, Con.rel, den, Con.extS, Con.draw, Con.step, Draws.steps, Try.f9, drawActEndC, actDoC, memBitC, sMemBitC]
    intro b2
    refine loop_inv (σ := ⟨[drawActEndC, actDoC, memBitC, sMemBitC], []⟩) hmx (by kernel_rfl) (fun q cx tm mem => cx = cx1 ∧ ∃ (i : Nat), i ≤ 16 ∧ q = 16 - i ∧ mem = [⟨b1, cellC m, 43⟩, ⟨b2, cellC m1, 43⟩] ∧ Sx.look tm 6 = .v (.int .i64 i) ∧ Sx.look tm 4 = .v (.int .i64 p) ∧ Sx.look tm 3 = .p 0 b1 0 ∧ Sx.look tm 5 = .p 1 b2 0)
      16 ⟨rfl, 0, by omega, rfl, rfl, by simp [Sx.look], by simp [Sx.look], by simp [Sx.look], by simp [Sx.look]⟩ ?_
    rintro q cx tm mem ⟨rfl, i, hi, rfl, rfl, h6, h4, h3, h5⟩
    refine ⟨400, ?_⟩
    by_cases hlt : i < 16
    · have hlt' : (i : Int) < 16 := by omega
      have t1 : (i : Int).tdiv 8 = (i : Int) / 8 := Int.tdiv_eq_ediv_of_nonneg (by omega)
      have t2 : p.tdiv 8 = p / 8 := Int.tdiv_eq_ediv_of_nonneg p0
      have t3 : IntKind.i64.wrap ((i : Int) / 8) = (i : Int) / 8 := wrap_i64 (by omega) (by omega)
      have t4 : IntKind.i64.wrap (p / 8) = p / 8 := wrap_i64 (by omega) (by omega)
      have ei := eb i ⟨by omega, hlt'⟩
      by_cases hg8 : (i : Int) / 8 = p / 8
      · rw [if_pos hg8] at ei
        have hq := eq_true hg8
        by_cases hip : (i : Int) = p
        · have ei' : memBit m1 4 i = true := by rw [ei]; simp [hip]
          have hipT := eq_true hip
          simp (maxSteps := 4000000) -dsimp [-List.all_eq_true, -Array.all_eq_true, -Bool.exists_bool, -Bool.forall_bool, vcsE1, vcsE2, vcsE3, vcsE4, vcsE5, vcsE6, vcsE7, vcsE8, vcsE9, vcsE10, vcsE11, vcsE12, vcsE13, vcsE14, vcsE15, vcsE16, vcsE17, vcsE18, vcsE19, Sx.get, Sx.look, Sx.put, pureFn, findOrd, unF, dstOk, isFloatT, endVC, resFn, packC, newFn, storeFn, buildFn, undef, known, aggT, cellsC, Value.cells, findCon, Con.pure, Con.some, allV, partsV, partsC, fillL, Sx.exitTo, fAr, C.one, Value.oneCell', eqFn, eqFieldsFn, eqElemsFn, partFn, and_assoc, List.zipIdx, sliceFn, boundFn, AppV, CopyV, MakeSliceV, NewsV, GrowV, TextV, bytesL, notInt, typeAt, argAt, Con.read, Con.make, Con.ext, Con.rel, den, Con.extS, Con.draw, Con.step, Draws.steps, Try.f9, drawActEndC, actDoC, memBitC, sMemBitC, h6, h4, h3, h5, hlt', t1, t2, t3, t4, hq, hm, k1, ei', hipT, i_succ (i := i) (by omega)]
          intro b3
          exact ⟨2, 16 - (i + 1), by omega, i + 1, by omega, rfl, rfl, by omega⟩
        · have ei' : memBit m1 4 i = false := by rw [ei]; simp [hip]
          simp (maxSteps := 4000000) -dsimp [-List.all_eq_true, -Array.all_eq_true, -Bool.exists_bool, -Bool.forall_bool, vcsE1, vcsE2, vcsE3, vcsE4, vcsE5, vcsE6, vcsE7, vcsE8, vcsE9, vcsE10, vcsE11, vcsE12, vcsE13, vcsE14, vcsE15, vcsE16, vcsE17, vcsE18, vcsE19, Sx.get, Sx.look, Sx.put, pureFn, findOrd, unF, dstOk, isFloatT, endVC, resFn, packC, newFn, storeFn, buildFn, undef, known, aggT, cellsC, Value.cells, findCon, Con.pure, Con.some, allV, partsV, partsC, fillL, Sx.exitTo, fAr, C.one, Value.oneCell', eqFn, eqFieldsFn, eqElemsFn, partFn, and_assoc, List.zipIdx, sliceFn, boundFn, AppV, CopyV, MakeSliceV, NewsV, GrowV, TextV, bytesL, notInt, typeAt, argAt, Con.read, Con.make, Con.ext, Con.rel, den, Con.extS, Con.draw, Con.step, Draws.steps, Try.f9, drawActEndC, actDoC, memBitC, sMemBitC, h6, h4, h3, h5, hlt', t1, t2, t3, t4, hq, hm, k1, ei', hip, i_succ (i := i) (by omega)]
          intro b3
          exact ⟨2, 16 - (i + 1), by omega, i + 1, by omega, rfl, rfl, by omega⟩
      · rw [if_neg hg8] at ei
        have hq := eq_false hg8
        simp (maxSteps := 4000000) -dsimp [-List.all_eq_true, -Array.all_eq_true, -Bool.exists_bool, -Bool.forall_bool, vcsE1, vcsE2, vcsE3, vcsE4, vcsE5, vcsE6, vcsE7, vcsE8, vcsE9, vcsE10, vcsE11, vcsE12, vcsE13, vcsE14, vcsE15, vcsE16, vcsE17, vcsE18, vcsE19, Sx.get, Sx.look, Sx.put, pureFn, findOrd, unF, dstOk, isFloatT, endVC, resFn, packC, newFn, storeFn, buildFn, undef, known, aggT, cellsC, Value.cells, findCon, Con.pure, Con.some, allV, partsV, partsC, fillL, Sx.exitTo, fAr, C.one, Value.oneCell', eqFn, eqFieldsFn, eqElemsFn, partFn, and_assoc, List.zipIdx, sliceFn, boundFn, AppV, CopyV, MakeSliceV, NewsV, GrowV, TextV, bytesL, notInt, typeAt, argAt, Con.read, Con.make, Con.ext, Con.rel, den, Con.extS, Con.draw, Con.step, Draws.steps, Try.f9, drawActEndC, actDoC, memBitC, sMemBitC, h6, h4, h3, h5, hlt', t1, t2, t3, t4, hq, hm, k1, ei, i_succ (i := i) (by omega)]
        intro b3
        exact ⟨2, 16 - (i + 1), by omega, i + 1, by omega, rfl, rfl, by omega⟩
    · have hlt' : ¬ (i : Int) < 16 := by omega
      simp (maxSteps := 4000000) -dsimp [-List.all_eq_true, -Array.all_eq_true, -Bool.exists_bool, -Bool.forall_bool, vcsE1, vcsE2, vcsE3, vcsE4, vcsE5, vcsE6, vcsE7, vcsE8, vcsE9, vcsE10, vcsE11, vcsE12, vcsE13, vcsE14, vcsE15, vcsE16, vcsE17, vcsE18, vcsE19, Sx.get, Sx.look, Sx.put, pureFn, findOrd, unF, dstOk, isFloatT, endVC, resFn, packC, newFn, storeFn, buildFn, undef, known, aggT, cellsC, Value.cells, findCon, Con.pure, Con.some, allV, partsV, partsC, fillL, Sx.exitTo, fAr, C.one, Value.oneCell', eqFn, eqFieldsFn, eqElemsFn, partFn, and_assoc, List.zipIdx, sliceFn, boundFn, AppV, CopyV, MakeSliceV, NewsV, GrowV, TextV, bytesL, notInt, typeAt, argAt, Con.read, Con.make, Con.ext, Con.rel, den, Con.extS, Con.draw, Con.step, Draws.steps, Try.f9, drawActEndC, actDoC, memBitC, sMemBitC, h6, h4, h3, h5, hlt', hw, hg]
  · by_cases hs1 : (1048576 : Int) < bs.length
    · simp (maxSteps := 4000000) -dsimp [-List.all_eq_true, -Array.all_eq_true, -Bool.exists_bool, -Bool.forall_bool, vcsE1, vcsE2, vcsE3, vcsE4, vcsE5, vcsE6, vcsE7, vcsE8, vcsE9, vcsE10, vcsE11, vcsE12, vcsE13, vcsE14, vcsE15, vcsE16, vcsE17, vcsE18, vcsE19, Sx.get, Sx.look, Sx.put, pureFn, findOrd, unF, dstOk, isFloatT, endVC, resFn, packC, newFn, storeFn, buildFn, undef, known, aggT, cellsC, Value.cells, findCon, Con.pure, Con.some, allV, partsV, partsC, fillL, Sx.exitTo, fAr, C.one, Value.oneCell', eqFn, eqFieldsFn, eqElemsFn, partFn, and_assoc, List.zipIdx, sliceFn, boundFn, AppV, CopyV, MakeSliceV, NewsV, GrowV, TextV, bytesL, notInt, typeAt, argAt, Con.read, Con.make, Con.ext, Con.rel, den, Con.extS, Con.draw, Con.step, Draws.steps, Try.f9, drawActEndC, actDoC, memBitC, sMemBitC, hs1]
    · have hs2 : (bs.length : Int) < 1 := by omega
      simp (maxSteps := 4000000) -dsimp [-List.all_eq_true, -Array.all_eq_true, -Bool.exists_bool, -Bool.forall_bool, vcsE1, vcsE2, vcsE3, vcsE4, vcsE5, vcsE6, vcsE7, vcsE8, vcsE9, vcsE10, vcsE11, vcsE12, vcsE13, vcsE14, vcsE15, vcsE16, vcsE17, vcsE18, vcsE19, Sx.get, Sx.look, Sx.put, pureFn, findOrd, unF, dstOk, isFloatT, endVC, resFn, packC, newFn, storeFn, buildFn, undef, known, aggT, cellsC, Value.cells, findCon, Con.pure, Con.some, allV, partsV, partsC, fillL, Sx.exitTo, fAr, C.one, Value.oneCell', eqFn, eqFieldsFn, eqElemsFn, partFn, and_assoc, List.zipIdx, sliceFn, boundFn, AppV, CopyV, MakeSliceV, NewsV, GrowV, TextV, bytesL, notInt, typeAt, argAt, Con.read, Con.make, Con.ext, Con.rel, den, Con.extS, Con.draw, Con.step, Draws.steps, Try.f9, drawActEndC, actDoC, memBitC, sMemBitC, hs1, hs2]
def lawAStepC_S : Reads Try.prog 9 where
  ι := ((Option Addr) × (Nat) × (List Int))
  A := fun (i : ((Option Addr) × (Nat) × (List Int))) => match i with | (o, cap, bs) => [.slice o bs.length cap]
  pre := fun (i : ((Option Addr) × (Nat) × (List Int))) (F : Facts) => match i with | (o, cap, bs) => RdB F o bs ∧ ((∀ b ∈ bs, 0 ≤ b ∧ b < 256) ∧ bs.length ≤ cap ∧ cap ≤ maxLen)
  res := fun (i : ((Option Addr) × (Nat) × (List Int))) => match i with | (o, cap, bs) => .bool true
  mono := by
    intro i F G hs h
    first | exact h | exact h.mono hs | exact ⟨h.1.mono hs, h.2⟩ | exact ⟨h.1.mono hs, h.2.1.mono hs, h.2.2⟩ | exact ⟨h.1.mono hs, h.2.1.mono hs⟩
  uniq := by
    rintro ⟨o, cap, bs⟩ ⟨o', cap', bs'⟩ F hA h h'
    simp at hA
    (try simp only [Int.natCast_inj] at hA)
    obtain rfl : bs = bs' := RdB.uniq h.1 h'.1 (by simp_all) (by simp_all)
    simp_all
  enter := Try.call9
  h := fun i w hp => lawAStepC_c i.1 i.2.1 i.2.2 w (by rw [factF_init]; exact hp)
def lawAStepC : Con Try.prog := Con.read lawAStepC_S
theorem lawAStepC_rw {o : Option Addr} {cap : Nat} {bs : List Int} {d : Nat} {cx : Cx} {mem : List Blk} {K : C → Prop} (hpre : RdB (nowF cx mem) o bs ∧ ((∀ b ∈ bs, 0 ≤ b ∧ b < 256) ∧ bs.length ≤ cap ∧ cap ≤ maxLen)) : ReadV d lawAStepC_S cx [.v (.slice o bs.length cap)] mem K = K (.v (.bool true)) := lawAStepC_S.eq (o, cap, bs) rfl hpre
end Go.Proofs.Ytmiicjgbhkjocaa
