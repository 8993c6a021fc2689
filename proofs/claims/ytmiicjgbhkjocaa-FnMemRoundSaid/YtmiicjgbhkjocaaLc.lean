/-
  The law of places that are counted round, walked.
-/
import Derived.Test.YtmiicjgbhkjocaaLb
set_option linter.unusedVariables false
set_option linter.unusedSimpArgs false
set_option maxRecDepth 100000
set_option maxHeartbeats 4000000
namespace Go.Proofs.Ytmiicjgbhkjocaa
open Go Go.Sx

theorem memReal_round {m : M} {k n n' : Int} (hk : 1 ≤ k ∧ k ≤ 10) (h : place k n' = place k n) : memRealF m k n' 0 = memRealF m k n 0 := by
  unfold memRealF
  split
  · rename_i e; subst e; rw [h]
  · unfold realArgF
    have h12 : k ≠ 12 := by omega
    have h13 : k ≠ 13 := by omega
    simp [h12, h13]
theorem lawMRoundC_c (o : Option Addr) (cap : Nat) (bs : List Int) (w : World) (hpre : RdB (factF ⟨w, [], w, []⟩) o bs ∧ ((∀ b ∈ bs, 0 ≤ b ∧ b < 256) ∧ bs.length ≤ cap ∧ cap ≤ maxLen)) : Calls Try.prog 6 #[.slice o bs.length cap] w fun e w' => e = .returned (.bool true) ∧ RowKit.Below w.heap.size w w' := by
  refine (plain_of_vcs ⟨[drawMemBitC, sDevSizeC, memBitC, sMemBitC, memWholeC, sMemWholeC, memRealC, wrSameC], []⟩ hmx Try.func6 rfl (by kernel_rfl) (args := [.slice o bs.length cap]) (by simp [Try.ntmps6]) w (· = .bool true) 400 ?_).mono fun e w' ⟨v, h1, h2, h3⟩ => ⟨h2 ▸ h1, h3⟩
  obtain ⟨h, hb⟩ := hpre
  by_cases hs : bs.length ≤ 1048576
  · have hs1 : ¬ (1048576 : Int) < bs.length := by omega
    simp (maxSteps := 4000000) -dsimp [-List.all_eq_true, -Array.all_eq_true, -Bool.exists_bool, -Bool.forall_bool, vcsE1, vcsE2, vcsE3, vcsE4, vcsE5, vcsE6, vcsE7, vcsE8, vcsE9, vcsE10, vcsE11, vcsE12, vcsE13, vcsE14, vcsE15, vcsE16, vcsE17, vcsE18, vcsE19, Sx.get, Sx.look, Sx.put, pureFn, findOrd, unF, dstOk, isFloatT, endVC, resFn, packC, newFn, storeFn, buildFn, undef, known, aggT, cellsC, Value.cells, findCon, Con.pure, Con.some, allV, partsV, partsC, fillL, Sx.exitTo, fAr, C.one, Value.oneCell', eqFn, eqFieldsFn, eqElemsFn, partFn, and_assoc, List.zipIdx, sliceFn, boundFn, AppV, CopyV, MakeSliceV, NewsV, GrowV, TextV, bytesL, notInt, typeAt, argAt, Con.read, Con.make, Con.ext, Con.rel, den, Con.extS, Con.draw, Con.step, Draws.steps, Try.f6, drawMemBitC, sDevSizeC, memBitC, sMemBitC, memWholeC, sMemWholeC, memRealC, wrSameC, hs1]
    refine ⟨(o, cap, bs), rfl, ⟨h.mono (sub_now _ _), hb⟩, fun v hv => ?_⟩
    obtain ⟨m, k, n, q, rfl, hm⟩ := hv
    obtain ⟨N, hN⟩ : ∃ N, ring k = N := ⟨_, rfl⟩
    have hNb := ring_bd k
    rw [hN] at hNb
    have hd : k ≠ 6 → devSize k = N := fun e => by rw [← hN]; unfold ring; rw [if_neg e]
    have hd6 : k = 6 → N = 8 := fun e => by rw [← hN, e]; decide
    by_cases hz : N = 0 ∨ 1000 < n ∨ n < -1000
    · by_cases h6 : k = 6
      · have e8 := hd6 h6
        have hz2 : 1000 < n ∨ n < -1000 := by omega
        rcases hz2 with hz2 | hz2
        · simp (maxSteps := 4000000) -dsimp [-List.all_eq_true, -Array.all_eq_true, -Bool.exists_bool, -Bool.forall_bool, vcsE1, vcsE2, vcsE3, vcsE4, vcsE5, vcsE6, vcsE7, vcsE8, vcsE9, vcsE10, vcsE11, vcsE12, vcsE13, vcsE14, vcsE15, vcsE16, vcsE17, vcsE18, vcsE19, Sx.get, Sx.look, Sx.put, pureFn, findOrd, unF, dstOk, isFloatT, endVC, resFn, packC, newFn, storeFn, buildFn, undef, known, aggT, cellsC, Value.cells, findCon, Con.pure, Con.some, allV, partsV, partsC, fillL, Sx.exitTo, fAr, C.one, Value.oneCell', eqFn, eqFieldsFn, eqElemsFn, partFn, and_assoc, List.zipIdx, sliceFn, boundFn, AppV, CopyV, MakeSliceV, NewsV, GrowV, TextV, bytesL, notInt, typeAt, argAt, Con.read, Con.make, Con.ext, Con.rel, den, Con.extS, Con.draw, Con.step, Draws.steps, Try.f6, drawMemBitC, sDevSizeC, memBitC, sMemBitC, memWholeC, sMemWholeC, memRealC, wrSameC, h6, hm, hz2]
        · simp (maxSteps := 4000000) -dsimp [-List.all_eq_true, -Array.all_eq_true, -Bool.exists_bool, -Bool.forall_bool, vcsE1, vcsE2, vcsE3, vcsE4, vcsE5, vcsE6, vcsE7, vcsE8, vcsE9, vcsE10, vcsE11, vcsE12, vcsE13, vcsE14, vcsE15, vcsE16, vcsE17, vcsE18, vcsE19, Sx.get, Sx.look, Sx.put, pureFn, findOrd, unF, dstOk, isFloatT, endVC, resFn, packC, newFn, storeFn, buildFn, undef, known, aggT, cellsC, Value.cells, findCon, Con.pure, Con.some, allV, partsV, partsC, fillL, Sx.exitTo, fAr, C.one, Value.oneCell', eqFn, eqFieldsFn, eqElemsFn, partFn, and_assoc, List.zipIdx, sliceFn, boundFn, AppV, CopyV, MakeSliceV, NewsV, GrowV, TextV, bytesL, notInt, typeAt, argAt, Con.read, Con.make, Con.ext, Con.rel, den, Con.extS, Con.draw, Con.step, Draws.steps, Try.f6, drawMemBitC, sDevSizeC, memBitC, sMemBitC, memWholeC, sMemWholeC, memRealC, wrSameC, h6, hm, hz2, show ¬ 1000 < n by omega]
      · have e8 := hd h6
        by_cases hz0 : N = 0
        · simp (maxSteps := 4000000) -dsimp [-List.all_eq_true, -Array.all_eq_true, -Bool.exists_bool, -Bool.forall_bool, vcsE1, vcsE2, vcsE3, vcsE4, vcsE5, vcsE6, vcsE7, vcsE8, vcsE9, vcsE10, vcsE11, vcsE12, vcsE13, vcsE14, vcsE15, vcsE16, vcsE17, vcsE18, vcsE19, Sx.get, Sx.look, Sx.put, pureFn, findOrd, unF, dstOk, isFloatT, endVC, resFn, packC, newFn, storeFn, buildFn, undef, known, aggT, cellsC, Value.cells, findCon, Con.pure, Con.some, allV, partsV, partsC, fillL, Sx.exitTo, fAr, C.one, Value.oneCell', eqFn, eqFieldsFn, eqElemsFn, partFn, and_assoc, List.zipIdx, sliceFn, boundFn, AppV, CopyV, MakeSliceV, NewsV, GrowV, TextV, bytesL, notInt, typeAt, argAt, Con.read, Con.make, Con.ext, Con.rel, den, Con.extS, Con.draw, Con.step, Draws.steps, Try.f6, drawMemBitC, sDevSizeC, memBitC, sMemBitC, memWholeC, sMemWholeC, memRealC, wrSameC, h6, hm, e8, hz0]
        · have hz2 : 1000 < n ∨ n < -1000 := by omega
          rcases hz2 with hz2 | hz2
          · simp (maxSteps := 4000000) -dsimp [-List.all_eq_true, -Array.all_eq_true, -Bool.exists_bool, -Bool.forall_bool, vcsE1, vcsE2, vcsE3, vcsE4, vcsE5, vcsE6, vcsE7, vcsE8, vcsE9, vcsE10, vcsE11, vcsE12, vcsE13, vcsE14, vcsE15, vcsE16, vcsE17, vcsE18, vcsE19, Sx.get, Sx.look, Sx.put, pureFn, findOrd, unF, dstOk, isFloatT, endVC, resFn, packC, newFn, storeFn, buildFn, undef, known, aggT, cellsC, Value.cells, findCon, Con.pure, Con.some, allV, partsV, partsC, fillL, Sx.exitTo, fAr, C.one, Value.oneCell', eqFn, eqFieldsFn, eqElemsFn, partFn, and_assoc, List.zipIdx, sliceFn, boundFn, AppV, CopyV, MakeSliceV, NewsV, GrowV, TextV, bytesL, notInt, typeAt, argAt, Con.read, Con.make, Con.ext, Con.rel, den, Con.extS, Con.draw, Con.step, Draws.steps, Try.f6, drawMemBitC, sDevSizeC, memBitC, sMemBitC, memWholeC, sMemWholeC, memRealC, wrSameC, h6, hm, e8, hz0, hz2]
          · simp (maxSteps := 4000000) -dsimp [-List.all_eq_true, -Array.all_eq_true, -Bool.exists_bool, -Bool.forall_bool, vcsE1, vcsE2, vcsE3, vcsE4, vcsE5, vcsE6, vcsE7, vcsE8, vcsE9, vcsE10, vcsE11, vcsE12, vcsE13, vcsE14, vcsE15, vcsE16, vcsE17, vcsE18, vcsE19, Sx.get, Sx.look, Sx.put, pureFn, findOrd, unF, dstOk, isFloatT, endVC, resFn, packC, newFn, storeFn, buildFn, undef, known, aggT, cellsC, Value.cells, findCon, Con.pure, Con.some, allV, partsV, partsC, fillL, Sx.exitTo, fAr, C.one, Value.oneCell', eqFn, eqFieldsFn, eqElemsFn, partFn, and_assoc, List.zipIdx, sliceFn, boundFn, AppV, CopyV, MakeSliceV, NewsV, GrowV, TextV, bytesL, notInt, typeAt, argAt, Con.read, Con.make, Con.ext, Con.rel, den, Con.extS, Con.draw, Con.step, Draws.steps, Try.f6, drawMemBitC, sDevSizeC, memBitC, sMemBitC, memWholeC, sMemWholeC, memRealC, wrSameC, h6, hm, e8, hz0, hz2, show ¬ 1000 < n by omega]
    · have z1 : ¬ N = 0 := by omega
      have z2 : ¬ 1000 < n := by omega
      have z3 : ¬ n < -1000 := by omega
      have w1 : IntKind.i64.wrap (n + N) = n + N := wrap_i64 (by omega) (by omega)
      have w2 : IntKind.i64.wrap (3 * N) = 3 * N := wrap_i64 (by omega) (by omega)
      have w3 : IntKind.i64.wrap (n - 3 * N) = n - 3 * N := wrap_i64 (by omega) (by omega)
      have p1 : place k (n + N) = place k n := by
        have := place_round (k := k) (n := n) (j := 1)
        rwa [hN, Int.one_mul] at this
      have p2 : place k (n - 3 * N) = place k n := by
        have := place_round (k := k) (n := n) (j := -3)
        rwa [hN, show n + -3 * N = n - 3 * N by omega] at this
      have hk : 1 ≤ k ∧ k ≤ 10 := by
        by_cases h6 : k = 6
        · omega
        · have e8 := hd h6
          by_cases ho : k < 1 ∨ 10 < k
          · have := devSize_out ho; omega
          · omega
      have b1 := memBit_round (m := m) p1
      have b2 := memBit_round (m := m) p2
      have c1 := memWhole_round (m := m) p1 (by omega)
      have c2 := memWhole_round (m := m) p2 (by omega)
      have d1 := memReal_round (m := m) hk p1
      have d2 := memReal_round (m := m) hk p2
      have hsm := sameF_refl (memRealF m k n 0)
      have hlt := memRealF_lt (k := k) (n := n) (p := 0) hm
      by_cases h6 : k = 6
      · have e8 := hd6 h6
        rw [e8] at w1 w2 w3 b1 b2 c1 c2 d1 d2
        rw [h6] at b1 b2 c1 c2 d1 d2 hsm hlt
        simp only [show (3 : Int) * 8 = 24 from rfl] at w2 w3 b2 c2 d2
        simp (maxSteps := 4000000) -dsimp [-List.all_eq_true, -Array.all_eq_true, -Bool.exists_bool, -Bool.forall_bool, vcsE1, vcsE2, vcsE3, vcsE4, vcsE5, vcsE6, vcsE7, vcsE8, vcsE9, vcsE10, vcsE11, vcsE12, vcsE13, vcsE14, vcsE15, vcsE16, vcsE17, vcsE18, vcsE19, Sx.get, Sx.look, Sx.put, pureFn, findOrd, unF, dstOk, isFloatT, endVC, resFn, packC, newFn, storeFn, buildFn, undef, known, aggT, cellsC, Value.cells, findCon, Con.pure, Con.some, allV, partsV, partsC, fillL, Sx.exitTo, fAr, C.one, Value.oneCell', eqFn, eqFieldsFn, eqElemsFn, partFn, and_assoc, List.zipIdx, sliceFn, boundFn, AppV, CopyV, MakeSliceV, NewsV, GrowV, TextV, bytesL, notInt, typeAt, argAt, Con.read, Con.make, Con.ext, Con.rel, den, Con.extS, Con.draw, Con.step, Draws.steps, Try.f6, drawMemBitC, sDevSizeC, memBitC, sMemBitC, memWholeC, sMemWholeC, memRealC, wrSameC, h6, hm, z2, z3, w1, w2, w3, b1, b2, c1, c2, d1, d2, hsm, hlt]
      · have e8 := hd h6
        simp (maxSteps := 4000000) -dsimp [-List.all_eq_true, -Array.all_eq_true, -Bool.exists_bool, -Bool.forall_bool, vcsE1, vcsE2, vcsE3, vcsE4, vcsE5, vcsE6, vcsE7, vcsE8, vcsE9, vcsE10, vcsE11, vcsE12, vcsE13, vcsE14, vcsE15, vcsE16, vcsE17, vcsE18, vcsE19, Sx.get, Sx.look, Sx.put, pureFn, findOrd, unF, dstOk, isFloatT, endVC, resFn, packC, newFn, storeFn, buildFn, undef, known, aggT, cellsC, Value.cells, findCon, Con.pure, Con.some, allV, partsV, partsC, fillL, Sx.exitTo, fAr, C.one, Value.oneCell', eqFn, eqFieldsFn, eqElemsFn, partFn, and_assoc, List.zipIdx, sliceFn, boundFn, AppV, CopyV, MakeSliceV, NewsV, GrowV, TextV, bytesL, notInt, typeAt, argAt, Con.read, Con.make, Con.ext, Con.rel, den, Con.extS, Con.draw, Con.step, Draws.steps, Try.f6, drawMemBitC, sDevSizeC, memBitC, sMemBitC, memWholeC, sMemWholeC, memRealC, wrSameC, h6, hm, e8, z1, z2, z3, w1, w2, w3, b1, b2, c1, c2, d1, d2, hsm, hlt]
  · have hs1 : (1048576 : Int) < bs.length := by omega
    simp (maxSteps := 4000000) -dsimp [-List.all_eq_true, -Array.all_eq_true, -Bool.exists_bool, -Bool.forall_bool, vcsE1, vcsE2, vcsE3, vcsE4, vcsE5, vcsE6, vcsE7, vcsE8, vcsE9, vcsE10, vcsE11, vcsE12, vcsE13, vcsE14, vcsE15, vcsE16, vcsE17, vcsE18, vcsE19, Sx.get, Sx.look, Sx.put, pureFn, findOrd, unF, dstOk, isFloatT, endVC, resFn, packC, newFn, storeFn, buildFn, undef, known, aggT, cellsC, Value.cells, findCon, Con.pure, Con.some, allV, partsV, partsC, fillL, Sx.exitTo, fAr, C.one, Value.oneCell', eqFn, eqFieldsFn, eqElemsFn, partFn, and_assoc, List.zipIdx, sliceFn, boundFn, AppV, CopyV, MakeSliceV, NewsV, GrowV, TextV, bytesL, notInt, typeAt, argAt, Con.read, Con.make, Con.ext, Con.rel, den, Con.extS, Con.draw, Con.step, Draws.steps, Try.f6, drawMemBitC, sDevSizeC, memBitC, sMemBitC, memWholeC, sMemWholeC, memRealC, wrSameC, hs1]
def lawMRoundC_S : Reads Try.prog 6 where
  ι := ((Option Addr) × (Nat) × (List Int))
  A := fun (i : ((Option Addr) × (Nat) × (List Int))) => match i with | (o, cap, bs) => [.slice o bs.length cap]
  pre := fun (i : ((Option Addr) × (Nat) × (List Int))) (F : Facts) => match i with | (o, cap, bs) => RdB F o bs ∧ ((∀ b ∈ bs, 0 ≤ b ∧ b < 256) ∧ bs.length ≤ cap ∧ cap ≤ maxLen)
  res := fun (i : ((Option Addr) × (Nat) × (List Int))) => match i with | (o, cap, bs) => .bool true
  mono := by
    intro i F G hs h
    first | exact h | exact h.mono hs | exact ⟨h.1.mono hs, h.2⟩ | exact ⟨h.1.mono hs, h.2.1.mono hs, h.2.2⟩ | exact ⟨h.1.mono hs, h.2.1.mono hs⟩
  uniq := by
    rintro ⟨o, cap, bs⟩ ⟨o', cap', bs'⟩ F hA h h'
    simp at hA
    (try simp only [Int.natCast_inj] at hA)
    obtain rfl : bs = bs' := RdB.uniq h.1 h'.1 (by simp_all) (by simp_all)
    simp_all
  enter := Try.call6
  h := fun i w hp => lawMRoundC_c i.1 i.2.1 i.2.2 w (by rw [factF_init]; exact hp)
def lawMRoundC : Con Try.prog := Con.read lawMRoundC_S
theorem lawMRoundC_rw {o : Option Addr} {cap : Nat} {bs : List Int} {d : Nat} {cx : Cx} {mem : List Blk} {K : C → Prop} (hpre : RdB (nowF cx mem) o bs ∧ ((∀ b ∈ bs, 0 ≤ b ∧ b < 256) ∧ bs.length ≤ cap ∧ cap ≤ maxLen)) : ReadV d lawMRoundC_S cx [.v (.slice o bs.length cap)] mem K = K (.v (.bool true)) := lawMRoundC_S.eq (o, cap, bs) rfl hpre
end Go.Proofs.Ytmiicjgbhkjocaa
