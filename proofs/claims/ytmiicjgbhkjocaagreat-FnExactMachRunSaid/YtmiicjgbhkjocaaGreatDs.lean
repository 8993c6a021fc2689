/-
  Contracts: what coils do, by the reference.
-/
import Derived.Test.YtmiicjgbhkjocaaGreatDq
import Derived.Test.YtmiicjgbhkjocaaGreatU
set_option linter.unusedVariables false
set_option linter.unusedSimpArgs false
set_option maxRecDepth 100000
set_option maxHeartbeats 4000000
namespace Go.Proofs.YtmiicjgbhkjocaaGreat
open Go Go.Sx





theorem sp2 (a b c d : Sx.C) : splice [a, b] 0 [c, d] = [c, d] := rfl
theorem sp3 (a b c d e f : Sx.C) : splice [a, b, c] 0 [d, e, f] = [d, e, f] := rfl
theorem sPresetC_c (m : M) (k n p : Int) (hpre : MOk m) (w : World) : Calls Tryz.prog 206 #[.agg (cells m), .agg #[.int .i64 k, .int .i64 n, .int .i64 p]] w fun e w' => e = .returned (.int .i64 (presetOf m ⟨k, n, p⟩)) ∧ RowKit.Below w.heap.size w w' := by
  refine (plain_of_vcs ⟨[sMemWholeC], []⟩ hmx Tryz.func206 rfl (by kernel_rfl) (args := [.agg (cells m), .agg #[.int .i64 k, .int .i64 n, .int .i64 p]]) (by simp [Tryz.ntmps206]) w (· = .int .i64 (presetOf m ⟨k, n, p⟩)) 400 ?_).mono fun e w' ⟨v, h1, h2, h3⟩ => ⟨h2 ▸ h1, h3⟩
  have hw := memWhole_bd (k := k) (n := n) hpre
  have e1 : IntKind.i64.wrap (memWhole m k n) = memWhole m k n := wrap_i64 (by omega) (by omega)
  simp (maxSteps := 4000000) -dsimp [-List.all_eq_true, -Array.all_eq_true, -Bool.exists_bool, -Bool.forall_bool, vcsE1, vcsE2, vcsE3, vcsE4, vcsE5, vcsE6, vcsE7, vcsE8, vcsE9, vcsE10, vcsE11, vcsE12, vcsE13, vcsE14, vcsE15, vcsE16, vcsE17, vcsE18, vcsE19, Sx.get, Sx.look, Sx.put, pureFn, findOrd, unF, dstOk, isFloatT, endVC, resFn, packC, newFn, storeFn, buildFn, undef, known, aggT, cellsC, Value.cells, findCon, Con.pure, Con.some, allV, partsV, partsC, fillL, Sx.exitTo, fAr, C.one, Value.oneCell', eqFn, eqFieldsFn, eqElemsFn, partFn, and_assoc, List.zipIdx, sliceFn, boundFn, AppV, CopyV, MakeSliceV, NewsV, GrowV, TextV, bytesL, notInt, typeAt, argAt, Con.read, Con.make, Con.ext, Con.rel, den, Con.extS, Con.draw, Con.step, Draws.steps, Tryz.f206, sMemWholeC, hpre, e1, presetOf]
  omega
def sPresetC : Con Tryz.prog := Con.pure 206 Tryz.call206 (fun (i : ((M) × (Int) × (Int) × (Int))) => match i with | (m, k, n, p) => [.agg (cells m), .agg #[.int .i64 k, .int .i64 n, .int .i64 p]]) (fun (i : ((M) × (Int) × (Int) × (Int))) => match i with | (m, k, n, p) => MOk m) (fun (i : ((M) × (Int) × (Int) × (Int))) => match i with | (m, k, n, p) => .int .i64 (presetOf m ⟨k, n, p⟩)) fun i w hp => sPresetC_c i.1 i.2.1 i.2.2.1 i.2.2.2 hp w
theorem sLaterC_c (c dt p : Int) (hpre : 0 ≤ c ∧ c < 65536 ∧ 0 ≤ dt ∧ dt < 65536 ∧ 0 ≤ p ∧ p ≤ 32767) (w : World) : Calls Tryz.prog 207 #[.int .u16 c, .int .u16 dt, .int .i64 p] w fun e w' => e = .returned (.int .u16 (onw c dt p)) ∧ RowKit.Below w.heap.size w w' := by
  refine (plain_of_vcs ⟨[], []⟩ hmx Tryz.func207 rfl (by kernel_rfl) (args := [.int .u16 c, .int .u16 dt, .int .i64 p]) (by simp [Tryz.ntmps207]) w (· = .int .u16 (onw c dt p)) 400 ?_).mono fun e w' ⟨v, h1, h2, h3⟩ => ⟨h2 ▸ h1, h3⟩
  obtain ⟨h1, h2, h3, h4, h5⟩ := hpre
  have e1 : IntKind.i64.wrap c = c := wrap_i64 (by omega) (by omega)
  have e2 : IntKind.i64.wrap dt = dt := wrap_i64 (by omega) (by omega)
  have e3 : IntKind.i64.wrap (c + dt) = c + dt := wrap_i64 (by omega) (by omega)
  have ob := onw_bd h1 h3 h5
  by_cases hp : p < c + dt
  · have e4 : onw c dt p = p := by unfold onw; omega
    have e5 : IntKind.u16.wrap p = p := wrap_u16 (by omega) (by omega)
    simp (maxSteps := 4000000) -dsimp [-List.all_eq_true, -Array.all_eq_true, -Bool.exists_bool, -Bool.forall_bool, vcsE1, vcsE2, vcsE3, vcsE4, vcsE5, vcsE6, vcsE7, vcsE8, vcsE9, vcsE10, vcsE11, vcsE12, vcsE13, vcsE14, vcsE15, vcsE16, vcsE17, vcsE18, vcsE19, Sx.get, Sx.look, Sx.put, pureFn, findOrd, unF, dstOk, isFloatT, endVC, resFn, packC, newFn, storeFn, buildFn, undef, known, aggT, cellsC, Value.cells, findCon, Con.pure, Con.some, allV, partsV, partsC, fillL, Sx.exitTo, fAr, C.one, Value.oneCell', eqFn, eqFieldsFn, eqElemsFn, partFn, and_assoc, List.zipIdx, sliceFn, boundFn, AppV, CopyV, MakeSliceV, NewsV, GrowV, TextV, bytesL, notInt, typeAt, argAt, Con.read, Con.make, Con.ext, Con.rel, den, Con.extS, Con.draw, Con.step, Draws.steps, Tryz.f207, e1, e2, e3, e4, hp, e5]
  · have e4 : onw c dt p = c + dt := by unfold onw; omega
    have e5 : IntKind.u16.wrap (c + dt) = c + dt := wrap_u16 (by omega) (by omega)
    simp (maxSteps := 4000000) -dsimp [-List.all_eq_true, -Array.all_eq_true, -Bool.exists_bool, -Bool.forall_bool, vcsE1, vcsE2, vcsE3, vcsE4, vcsE5, vcsE6, vcsE7, vcsE8, vcsE9, vcsE10, vcsE11, vcsE12, vcsE13, vcsE14, vcsE15, vcsE16, vcsE17, vcsE18, vcsE19, Sx.get, Sx.look, Sx.put, pureFn, findOrd, unF, dstOk, isFloatT, endVC, resFn, packC, newFn, storeFn, buildFn, undef, known, aggT, cellsC, Value.cells, findCon, Con.pure, Con.some, allV, partsV, partsC, fillL, Sx.exitTo, fAr, C.one, Value.oneCell', eqFn, eqFieldsFn, eqElemsFn, partFn, and_assoc, List.zipIdx, sliceFn, boundFn, AppV, CopyV, MakeSliceV, NewsV, GrowV, TextV, bytesL, notInt, typeAt, argAt, Con.read, Con.make, Con.ext, Con.rel, den, Con.extS, Con.draw, Con.step, Draws.steps, Tryz.f207, e1, e2, e3, e4, hp, e5]
def sLaterC : Con Tryz.prog := Con.pure 207 Tryz.call207 (fun (i : ((Int) × (Int) × (Int))) => match i with | (c, dt, p) => [.int .u16 c, .int .u16 dt, .int .i64 p]) (fun (i : ((Int) × (Int) × (Int))) => match i with | (c, dt, p) => 0 ≤ c ∧ c < 65536 ∧ 0 ≤ dt ∧ dt < 65536 ∧ 0 ≤ p ∧ p ≤ 32767) (fun (i : ((Int) × (Int) × (Int))) => match i with | (c, dt, p) => .int .u16 (onw c dt p)) fun i w hp => sLaterC_c i.1 i.2.1 i.2.2 hp w
theorem sNotEC_c (m : M) (k n p : Int) (b : Bool) (hpre : MOk m) (w : World) : Calls Tryz.prog 162 #[.agg (cells m), .agg #[.int .i64 k, .int .i64 n, .int .i64 p], .bool b] w fun e w' => e = .returned (.agg (cells (putBM m ⟨k, n, p⟩ b))) ∧ RowKit.Below w.heap.size w w' := by
  refine (plain_of_vcs ⟨[sMemPutC], []⟩ hmx Tryz.func162 rfl (by kernel_rfl) (args := [.agg (cells m), .agg #[.int .i64 k, .int .i64 n, .int .i64 p], .bool b]) (by simp [Tryz.ntmps162]) w (· = .agg (cells (putBM m ⟨k, n, p⟩ b))) 400 ?_).mono fun e w' ⟨v, h1, h2, h3⟩ => ⟨h2 ▸ h1, h3⟩
  by_cases h : k = 5
  · simp (maxSteps := 4000000) -dsimp [-List.all_eq_true, -Array.all_eq_true, -Bool.exists_bool, -Bool.forall_bool, vcsE1, vcsE2, vcsE3, vcsE4, vcsE5, vcsE6, vcsE7, vcsE8, vcsE9, vcsE10, vcsE11, vcsE12, vcsE13, vcsE14, vcsE15, vcsE16, vcsE17, vcsE18, vcsE19, Sx.get, Sx.look, Sx.put, pureFn, findOrd, unF, dstOk, isFloatT, endVC, resFn, packC, newFn, storeFn, buildFn, undef, known, aggT, cellsC, Value.cells, findCon, Con.pure, Con.some, allV, partsV, partsC, fillL, Sx.exitTo, fAr, C.one, Value.oneCell', eqFn, eqFieldsFn, eqElemsFn, partFn, and_assoc, List.zipIdx, sliceFn, boundFn, AppV, CopyV, MakeSliceV, NewsV, GrowV, TextV, bytesL, notInt, typeAt, argAt, Con.read, Con.make, Con.ext, Con.rel, den, Con.extS, Con.draw, Con.step, Draws.steps, Tryz.f162, sMemPutC, hpre, putBM, h]
  · simp (maxSteps := 4000000) -dsimp [-List.all_eq_true, -Array.all_eq_true, -Bool.exists_bool, -Bool.forall_bool, vcsE1, vcsE2, vcsE3, vcsE4, vcsE5, vcsE6, vcsE7, vcsE8, vcsE9, vcsE10, vcsE11, vcsE12, vcsE13, vcsE14, vcsE15, vcsE16, vcsE17, vcsE18, vcsE19, Sx.get, Sx.look, Sx.put, pureFn, findOrd, unF, dstOk, isFloatT, endVC, resFn, packC, newFn, storeFn, buildFn, undef, known, aggT, cellsC, Value.cells, findCon, Con.pure, Con.some, allV, partsV, partsC, fillL, Sx.exitTo, fAr, C.one, Value.oneCell', eqFn, eqFieldsFn, eqElemsFn, partFn, and_assoc, List.zipIdx, sliceFn, boundFn, AppV, CopyV, MakeSliceV, NewsV, GrowV, TextV, bytesL, notInt, typeAt, argAt, Con.read, Con.make, Con.ext, Con.rel, den, Con.extS, Con.draw, Con.step, Draws.steps, Tryz.f162, sMemPutC, hpre, putBM, h]
def sNotEC : Con Tryz.prog := Con.pure 162 Tryz.call162 (fun (i : ((M) × (Int) × (Int) × (Int) × (Bool))) => match i with | (m, k, n, p, b) => [.agg (cells m), .agg #[.int .i64 k, .int .i64 n, .int .i64 p], .bool b]) (fun (i : ((M) × (Int) × (Int) × (Int) × (Bool))) => match i with | (m, k, n, p, b) => MOk m) (fun (i : ((M) × (Int) × (Int) × (Int) × (Bool))) => match i with | (m, k, n, p, b) => .agg (cells (putBM m ⟨k, n, p⟩ b))) fun i w hp => sNotEC_c i.1 i.2.1 i.2.2.1 i.2.2.2.1 i.2.2.2.2 hp w
theorem sTimeC_c (m : M) (op : Int) (o : Option Addr) (cap : Nat) (xs : List Dev) (v : Bool) (dt : Int) (w : World) (hpre : RdD (factF ⟨w, [], w, []⟩) o xs ∧ MOk m ∧ 0 ≤ dt ∧ dt < 65536 ∧ (op = 26 ∨ op = 27 ∨ op = 28)) : Calls Tryz.prog 163 #[.agg (cells m), .agg #[.int .i64 op, .slice o xs.length cap], .bool v, .int .u16 dt] w fun e w' => e = .returned (.agg (cells (timerM m op (argD xs 0).k (argD xs 0).n (presetOf m (argD xs 1)) v dt))) ∧ RowKit.Below w.heap.size w w' := by
  refine (plain_of_vcs ⟨[sArgC, l5AtC, sPresetC, sLaterC], []⟩ hmx Tryz.func163 rfl (by kernel_rfl) (args := [.agg (cells m), .agg #[.int .i64 op, .slice o xs.length cap], .bool v, .int .u16 dt]) (by simp [Tryz.ntmps163]) w (· = .agg (cells (timerM m op (argD xs 0).k (argD xs 0).n (presetOf m (argD xs 1)) v dt))) 400 ?_).mono fun e w' ⟨v, h1, h2, h3⟩ => ⟨h2 ▸ h1, h3⟩
  obtain ⟨h, hm, hd1, hd2, hop⟩ := hpre
  have a0 := fun d mem K => sArgC_rw (op := op) (cap := cap) (d := d) (cx := ⟨w, [], w, []⟩) (mem := mem) (K := K) (j := 0) ⟨h.mono (sub_now _ _), by decide⟩
  have a1 := fun d mem K => sArgC_rw (op := op) (cap := cap) (d := d) (cx := ⟨w, [], w, []⟩) (mem := mem) (K := K) (j := 1) ⟨h.mono (sub_now _ _), by decide⟩
  have a2 := fun d mem K => sArgC_rw (op := op) (cap := cap) (d := d) (cx := ⟨w, [], w, []⟩) (mem := mem) (K := K) (j := 2) ⟨h.mono (sub_now _ _), by decide⟩
  have t2 : Int.toNat 2 = 2 := rfl
  simp only [Int.toNat_zero, Int.toNat_one, t2] at a0 a1 a2
  generalize argD xs 0 = a at *
  generalize argD xs 1 = b at *
  generalize argD xs 2 = c at *
  have hb := (place_bd a.k a.n).1
  obtain ⟨l1, l2, l3, l4, l5, l6, l7, l8, l9, l10⟩ := place_lt a.n
  have pb := preset_bd (b := b) hm
  obtain ⟨p, hpp⟩ : ∃ p, presetOf m b = p := ⟨_, rfl⟩
  have eb : presetOf m ⟨b.k, b.n, b.p⟩ = p := hpp
  rw [hpp] at pb ⊢
  obtain ⟨hp1, hp2⟩ := pb
  by_cases hk : a.k = 7
  · rw [hk] at hb
    have hj : (place 7 a.n).toNat < 16 := by omega
    have hT := hm.T _ hj
    have g2 := fun m => get_TT m _ hj
    have s2 := fun m b x => set_TT m b x _ hj
    have ob1 : 5 + (place 7 a.n).toNat * 2 ≤ 134 := by omega
    have us := upd_self m.T (place 7 a.n).toNat
    obtain ⟨td, tc, ht⟩ : ∃ td tc, m.T (place 7 a.n).toNat = (td, tc) := ⟨_, _, rfl⟩
    rw [ht] at hT us
    simp only at hT
    have ow := onw_bd (c := tc) (dt := dt) hT.1 hd1 ⟨hp1, hp2⟩
    have e1 : IntKind.i64.wrap (onw tc dt p) = onw tc dt p := wrap_i64 (by omega) (by omega)
    by_cases h28 : op = 28
    · subst h28
      cases v
      · cases td
        · simp (maxSteps := 4000000) -dsimp [-List.all_eq_true, -Array.all_eq_true, -Bool.exists_bool, -Bool.forall_bool, vcsE1, vcsE2, vcsE3, vcsE4, vcsE5, vcsE6, vcsE7, vcsE8, vcsE9, vcsE10, vcsE11, vcsE12, vcsE13, vcsE14, vcsE15, vcsE16, vcsE17, vcsE18, vcsE19, Sx.get, Sx.look, Sx.put, pureFn, findOrd, unF, dstOk, isFloatT, endVC, resFn, packC, newFn, storeFn, buildFn, undef, known, aggT, cellsC, Value.cells, findCon, Con.pure, Con.some, allV, partsV, partsC, fillL, Sx.exitTo, fAr, C.one, Value.oneCell', eqFn, eqFieldsFn, eqElemsFn, partFn, and_assoc, List.zipIdx, sliceFn, boundFn, AppV, CopyV, MakeSliceV, NewsV, GrowV, TextV, bytesL, notInt, typeAt, argAt, Con.read, Con.make, Con.ext, Con.rel, den, Con.extS, Con.draw, Con.step, Draws.steps, Tryz.f163, sArgC, l5AtC, sPresetC, sLaterC, -Sx.splice_two, sp2, hm, a0, a1, a2, hk, eb, timerM, timerT, hb, l7, g2, s2, hT, hp1, hp2, hd1, hd2, ht, ob1]
        · by_cases hp : p ≤ onw tc dt p
          · have hp' : ¬ onw tc dt p < p := by omega
            simp (maxSteps := 4000000) -dsimp [-List.all_eq_true, -Array.all_eq_true, -Bool.exists_bool, -Bool.forall_bool, vcsE1, vcsE2, vcsE3, vcsE4, vcsE5, vcsE6, vcsE7, vcsE8, vcsE9, vcsE10, vcsE11, vcsE12, vcsE13, vcsE14, vcsE15, vcsE16, vcsE17, vcsE18, vcsE19, Sx.get, Sx.look, Sx.put, pureFn, findOrd, unF, dstOk, isFloatT, endVC, resFn, packC, newFn, storeFn, buildFn, undef, known, aggT, cellsC, Value.cells, findCon, Con.pure, Con.some, allV, partsV, partsC, fillL, Sx.exitTo, fAr, C.one, Value.oneCell', eqFn, eqFieldsFn, eqElemsFn, partFn, and_assoc, List.zipIdx, sliceFn, boundFn, AppV, CopyV, MakeSliceV, NewsV, GrowV, TextV, bytesL, notInt, typeAt, argAt, Con.read, Con.make, Con.ext, Con.rel, den, Con.extS, Con.draw, Con.step, Draws.steps, Tryz.f163, sArgC, l5AtC, sPresetC, sLaterC, -Sx.splice_two, sp2, hm, a0, a1, a2, hk, eb, timerM, timerT, hb, l7, g2, s2, hT, hp1, hp2, hd1, hd2, ht, ob1, e1, hp, hp']
          · have hp' : onw tc dt p < p := by omega
            simp (maxSteps := 4000000) -dsimp [-List.all_eq_true, -Array.all_eq_true, -Bool.exists_bool, -Bool.forall_bool, vcsE1, vcsE2, vcsE3, vcsE4, vcsE5, vcsE6, vcsE7, vcsE8, vcsE9, vcsE10, vcsE11, vcsE12, vcsE13, vcsE14, vcsE15, vcsE16, vcsE17, vcsE18, vcsE19, Sx.get, Sx.look, Sx.put, pureFn, findOrd, unF, dstOk, isFloatT, endVC, resFn, packC, newFn, storeFn, buildFn, undef, known, aggT, cellsC, Value.cells, findCon, Con.pure, Con.some, allV, partsV, partsC, fillL, Sx.exitTo, fAr, C.one, Value.oneCell', eqFn, eqFieldsFn, eqElemsFn, partFn, and_assoc, List.zipIdx, sliceFn, boundFn, AppV, CopyV, MakeSliceV, NewsV, GrowV, TextV, bytesL, notInt, typeAt, argAt, Con.read, Con.make, Con.ext, Con.rel, den, Con.extS, Con.draw, Con.step, Draws.steps, Tryz.f163, sArgC, l5AtC, sPresetC, sLaterC, -Sx.splice_two, sp2, hm, a0, a1, a2, hk, eb, timerM, timerT, hb, l7, g2, s2, hT, hp1, hp2, hd1, hd2, ht, ob1, e1, hp, hp']
      · simp (maxSteps := 4000000) -dsimp [-List.all_eq_true, -Array.all_eq_true, -Bool.exists_bool, -Bool.forall_bool, vcsE1, vcsE2, vcsE3, vcsE4, vcsE5, vcsE6, vcsE7, vcsE8, vcsE9, vcsE10, vcsE11, vcsE12, vcsE13, vcsE14, vcsE15, vcsE16, vcsE17, vcsE18, vcsE19, Sx.get, Sx.look, Sx.put, pureFn, findOrd, unF, dstOk, isFloatT, endVC, resFn, packC, newFn, storeFn, buildFn, undef, known, aggT, cellsC, Value.cells, findCon, Con.pure, Con.some, allV, partsV, partsC, fillL, Sx.exitTo, fAr, C.one, Value.oneCell', eqFn, eqFieldsFn, eqElemsFn, partFn, and_assoc, List.zipIdx, sliceFn, boundFn, AppV, CopyV, MakeSliceV, NewsV, GrowV, TextV, bytesL, notInt, typeAt, argAt, Con.read, Con.make, Con.ext, Con.rel, den, Con.extS, Con.draw, Con.step, Draws.steps, Tryz.f163, sArgC, l5AtC, sPresetC, sLaterC, -Sx.splice_two, sp2, hm, a0, a1, a2, hk, eb, timerM, timerT, hb, l7, g2, s2, hT, hp1, hp2, hd1, hd2, ht, ob1]
    · cases v
      · by_cases h26 : op = 26
        · subst h26
          simp (maxSteps := 4000000) -dsimp [-List.all_eq_true, -Array.all_eq_true, -Bool.exists_bool, -Bool.forall_bool, vcsE1, vcsE2, vcsE3, vcsE4, vcsE5, vcsE6, vcsE7, vcsE8, vcsE9, vcsE10, vcsE11, vcsE12, vcsE13, vcsE14, vcsE15, vcsE16, vcsE17, vcsE18, vcsE19, Sx.get, Sx.look, Sx.put, pureFn, findOrd, unF, dstOk, isFloatT, endVC, resFn, packC, newFn, storeFn, buildFn, undef, known, aggT, cellsC, Value.cells, findCon, Con.pure, Con.some, allV, partsV, partsC, fillL, Sx.exitTo, fAr, C.one, Value.oneCell', eqFn, eqFieldsFn, eqElemsFn, partFn, and_assoc, List.zipIdx, sliceFn, boundFn, AppV, CopyV, MakeSliceV, NewsV, GrowV, TextV, bytesL, notInt, typeAt, argAt, Con.read, Con.make, Con.ext, Con.rel, den, Con.extS, Con.draw, Con.step, Draws.steps, Tryz.f163, sArgC, l5AtC, sPresetC, sLaterC, -Sx.splice_two, sp2, hm, a0, a1, a2, hk, eb, timerM, timerT, hb, l7, g2, s2, hT, hp1, hp2, hd1, hd2, ht, ob1, h28]
        · simp (maxSteps := 4000000) -dsimp [-List.all_eq_true, -Array.all_eq_true, -Bool.exists_bool, -Bool.forall_bool, vcsE1, vcsE2, vcsE3, vcsE4, vcsE5, vcsE6, vcsE7, vcsE8, vcsE9, vcsE10, vcsE11, vcsE12, vcsE13, vcsE14, vcsE15, vcsE16, vcsE17, vcsE18, vcsE19, Sx.get, Sx.look, Sx.put, pureFn, findOrd, unF, dstOk, isFloatT, endVC, resFn, packC, newFn, storeFn, buildFn, undef, known, aggT, cellsC, Value.cells, findCon, Con.pure, Con.some, allV, partsV, partsC, fillL, Sx.exitTo, fAr, C.one, Value.oneCell', eqFn, eqFieldsFn, eqElemsFn, partFn, and_assoc, List.zipIdx, sliceFn, boundFn, AppV, CopyV, MakeSliceV, NewsV, GrowV, TextV, bytesL, notInt, typeAt, argAt, Con.read, Con.make, Con.ext, Con.rel, den, Con.extS, Con.draw, Con.step, Draws.steps, Tryz.f163, sArgC, l5AtC, sPresetC, sLaterC, -Sx.splice_two, sp2, hm, a0, a1, a2, hk, eb, timerM, timerT, hb, l7, g2, s2, hT, hp1, hp2, hd1, hd2, ht, ob1, h28, h26, us]
      · simp (maxSteps := 4000000) -dsimp [-List.all_eq_true, -Array.all_eq_true, -Bool.exists_bool, -Bool.forall_bool, vcsE1, vcsE2, vcsE3, vcsE4, vcsE5, vcsE6, vcsE7, vcsE8, vcsE9, vcsE10, vcsE11, vcsE12, vcsE13, vcsE14, vcsE15, vcsE16, vcsE17, vcsE18, vcsE19, Sx.get, Sx.look, Sx.put, pureFn, findOrd, unF, dstOk, isFloatT, endVC, resFn, packC, newFn, storeFn, buildFn, undef, known, aggT, cellsC, Value.cells, findCon, Con.pure, Con.some, allV, partsV, partsC, fillL, Sx.exitTo, fAr, C.one, Value.oneCell', eqFn, eqFieldsFn, eqElemsFn, partFn, and_assoc, List.zipIdx, sliceFn, boundFn, AppV, CopyV, MakeSliceV, NewsV, GrowV, TextV, bytesL, notInt, typeAt, argAt, Con.read, Con.make, Con.ext, Con.rel, den, Con.extS, Con.draw, Con.step, Draws.steps, Tryz.f163, sArgC, l5AtC, sPresetC, sLaterC, -Sx.splice_two, sp2, hm, a0, a1, a2, hk, eb, timerM, timerT, hb, l7, g2, s2, hT, hp1, hp2, hd1, hd2, ht, ob1, h28, e1]
  · simp (maxSteps := 4000000) -dsimp [-List.all_eq_true, -Array.all_eq_true, -Bool.exists_bool, -Bool.forall_bool, vcsE1, vcsE2, vcsE3, vcsE4, vcsE5, vcsE6, vcsE7, vcsE8, vcsE9, vcsE10, vcsE11, vcsE12, vcsE13, vcsE14, vcsE15, vcsE16, vcsE17, vcsE18, vcsE19, Sx.get, Sx.look, Sx.put, pureFn, findOrd, unF, dstOk, isFloatT, endVC, resFn, packC, newFn, storeFn, buildFn, undef, known, aggT, cellsC, Value.cells, findCon, Con.pure, Con.some, allV, partsV, partsC, fillL, Sx.exitTo, fAr, C.one, Value.oneCell', eqFn, eqFieldsFn, eqElemsFn, partFn, and_assoc, List.zipIdx, sliceFn, boundFn, AppV, CopyV, MakeSliceV, NewsV, GrowV, TextV, bytesL, notInt, typeAt, argAt, Con.read, Con.make, Con.ext, Con.rel, den, Con.extS, Con.draw, Con.step, Draws.steps, Tryz.f163, sArgC, l5AtC, sPresetC, sLaterC, timerM, hk, a0]
def sTimeC_S : Reads Tryz.prog 163 where
  ι := ((M) × (Int) × (Option Addr) × (Nat) × (List Dev) × (Bool) × (Int))
  A := fun (i : ((M) × (Int) × (Option Addr) × (Nat) × (List Dev) × (Bool) × (Int))) => match i with | (m, op, o, cap, xs, v, dt) => [.agg (cells m), .agg #[.int .i64 op, .slice o xs.length cap], .bool v, .int .u16 dt]
  pre := fun (i : ((M) × (Int) × (Option Addr) × (Nat) × (List Dev) × (Bool) × (Int))) (F : Facts) => match i with | (m, op, o, cap, xs, v, dt) => RdD F o xs ∧ MOk m ∧ 0 ≤ dt ∧ dt < 65536 ∧ (op = 26 ∨ op = 27 ∨ op = 28)
  res := fun (i : ((M) × (Int) × (Option Addr) × (Nat) × (List Dev) × (Bool) × (Int))) => match i with | (m, op, o, cap, xs, v, dt) => .agg (cells (timerM m op (argD xs 0).k (argD xs 0).n (presetOf m (argD xs 1)) v dt))
  mono := by
    intro i F G hs h
    first | exact h | exact h.mono hs | exact ⟨h.1.mono hs, h.2⟩ | exact ⟨h.1.mono hs, h.2.1.mono hs, h.2.2⟩ | exact ⟨h.1.mono hs, h.2.1.mono hs⟩
  uniq := by
    rintro ⟨m, op, o, cap, xs, v, dt⟩ ⟨m', op', o', cap', xs', v', dt'⟩ F hA h h'
    simp at hA
    (try simp only [Int.natCast_inj] at hA)
    obtain rfl : xs = xs' := RdD.uniq h.1 h'.1 (by simp_all) (by simp_all)
    simp_all
  enter := Tryz.call163
  h := fun i w hp => sTimeC_c i.1 i.2.1 i.2.2.1 i.2.2.2.1 i.2.2.2.2.1 i.2.2.2.2.2.1 i.2.2.2.2.2.2 w (by rw [factF_init]; exact hp)
def sTimeC : Con Tryz.prog := Con.read sTimeC_S
theorem sTimeC_rw {m : M} {op : Int} {o : Option Addr} {cap : Nat} {xs : List Dev} {v : Bool} {dt : Int} {d : Nat} {cx : Cx} {mem : List Blk} {K : C → Prop} (hpre : RdD (nowF cx mem) o xs ∧ MOk m ∧ 0 ≤ dt ∧ dt < 65536 ∧ (op = 26 ∨ op = 27 ∨ op = 28)) : ReadV d sTimeC_S cx [.v (.agg (cells m)), .v (.agg #[.int .i64 op, .slice o xs.length cap]), .v (.bool v), .v (.int .u16 dt)] mem K = K (.v (.agg (cells (timerM m op (argD xs 0).k (argD xs 0).n (presetOf m (argD xs 1)) v dt)))) := sTimeC_S.eq (m, op, o, cap, xs, v, dt) rfl hpre
theorem sCountC_c (m : M) (op : Int) (o : Option Addr) (cap : Nat) (xs : List Dev) (v : Bool) (w : World) (hpre : RdD (factF ⟨w, [], w, []⟩) o xs ∧ MOk m) : Calls Tryz.prog 164 #[.agg (cells m), .agg #[.int .i64 op, .slice o xs.length cap], .bool v] w fun e w' => e = .returned (.agg (cells (counterM m (argD xs 0).k (argD xs 0).n (presetOf m (argD xs 1)) v))) ∧ RowKit.Below w.heap.size w w' := by
  refine (plain_of_vcs ⟨[sArgC, l5AtC, sPresetC], []⟩ hmx Tryz.func164 rfl (by kernel_rfl) (args := [.agg (cells m), .agg #[.int .i64 op, .slice o xs.length cap], .bool v]) (by simp [Tryz.ntmps164]) w (· = .agg (cells (counterM m (argD xs 0).k (argD xs 0).n (presetOf m (argD xs 1)) v))) 400 ?_).mono fun e w' ⟨v, h1, h2, h3⟩ => ⟨h2 ▸ h1, h3⟩
  obtain ⟨h, hm⟩ := hpre
  have a0 := fun d mem K => sArgC_rw (op := op) (cap := cap) (d := d) (cx := ⟨w, [], w, []⟩) (mem := mem) (K := K) (j := 0) ⟨h.mono (sub_now _ _), by decide⟩
  have a1 := fun d mem K => sArgC_rw (op := op) (cap := cap) (d := d) (cx := ⟨w, [], w, []⟩) (mem := mem) (K := K) (j := 1) ⟨h.mono (sub_now _ _), by decide⟩
  simp only [Int.toNat_zero, Int.toNat_one] at a0 a1
  generalize argD xs 0 = a at *
  generalize argD xs 1 = b at *
  have hb := (place_bd a.k a.n).1
  obtain ⟨l1, l2, l3, l4, l5, l6, l7, l8, l9, l10⟩ := place_lt a.n
  obtain ⟨p, hpp⟩ : ∃ p, presetOf m b = p := ⟨_, rfl⟩
  have eb : presetOf m ⟨b.k, b.n, b.p⟩ = p := hpp
  rw [hpp]
  by_cases hk : a.k = 8
  · rw [hk] at hb
    have hj : (place 8 a.n).toNat < 16 := by omega
    have hT := hm.C _ hj
    have g2 := fun m => get_CC m _ hj
    have s2 := fun m b c x => set_CC m b c x _ hj
    have ob1 : 37 + (place 8 a.n).toNat * 3 ≤ 133 := by omega
    obtain ⟨td, tl, tc, ht⟩ : ∃ td tl tc, m.C (place 8 a.n).toNat = (td, tl, tc) := ⟨_, _, _, rfl⟩
    rw [ht] at hT
    simp only at hT
    by_cases h65 : tc < 65535
    · have e1 : IntKind.u16.wrap (tc + 1) = tc + 1 := wrap_u16 (by omega) (by omega)
      have e2 : IntKind.i64.wrap (tc + 1) = tc + 1 := wrap_i64 (by omega) (by omega)
      have e3 : IntKind.i64.wrap tc = tc := wrap_i64 (by omega) (by omega)
      cases v <;> cases tl
      all_goals
        simp (maxSteps := 4000000) -dsimp [-List.all_eq_true, -Array.all_eq_true, -Bool.exists_bool, -Bool.forall_bool, vcsE1, vcsE2, vcsE3, vcsE4, vcsE5, vcsE6, vcsE7, vcsE8, vcsE9, vcsE10, vcsE11, vcsE12, vcsE13, vcsE14, vcsE15, vcsE16, vcsE17, vcsE18, vcsE19, Sx.get, Sx.look, Sx.put, pureFn, findOrd, unF, dstOk, isFloatT, endVC, resFn, packC, newFn, storeFn, buildFn, undef, known, aggT, cellsC, Value.cells, findCon, Con.pure, Con.some, allV, partsV, partsC, fillL, Sx.exitTo, fAr, C.one, Value.oneCell', eqFn, eqFieldsFn, eqElemsFn, partFn, and_assoc, List.zipIdx, sliceFn, boundFn, AppV, CopyV, MakeSliceV, NewsV, GrowV, TextV, bytesL, notInt, typeAt, argAt, Con.read, Con.make, Con.ext, Con.rel, den, Con.extS, Con.draw, Con.step, Draws.steps, Tryz.f164, sArgC, l5AtC, sPresetC, -Sx.splice_two, sp3, hm, a0, a1, hk, eb, counterM, cntC, cntN, hb, l8, g2, s2, hT, ht, ob1, h65, e1, e2, e3]
        (try omega)
    · have e3 : IntKind.i64.wrap tc = tc := wrap_i64 (by omega) (by omega)
      cases v <;> cases tl
      all_goals
        simp (maxSteps := 4000000) -dsimp [-List.all_eq_true, -Array.all_eq_true, -Bool.exists_bool, -Bool.forall_bool, vcsE1, vcsE2, vcsE3, vcsE4, vcsE5, vcsE6, vcsE7, vcsE8, vcsE9, vcsE10, vcsE11, vcsE12, vcsE13, vcsE14, vcsE15, vcsE16, vcsE17, vcsE18, vcsE19, Sx.get, Sx.look, Sx.put, pureFn, findOrd, unF, dstOk, isFloatT, endVC, resFn, packC, newFn, storeFn, buildFn, undef, known, aggT, cellsC, Value.cells, findCon, Con.pure, Con.some, allV, partsV, partsC, fillL, Sx.exitTo, fAr, C.one, Value.oneCell', eqFn, eqFieldsFn, eqElemsFn, partFn, and_assoc, List.zipIdx, sliceFn, boundFn, AppV, CopyV, MakeSliceV, NewsV, GrowV, TextV, bytesL, notInt, typeAt, argAt, Con.read, Con.make, Con.ext, Con.rel, den, Con.extS, Con.draw, Con.step, Draws.steps, Tryz.f164, sArgC, l5AtC, sPresetC, -Sx.splice_two, sp3, hm, a0, a1, hk, eb, counterM, cntC, cntN, hb, l8, g2, s2, hT, ht, ob1, h65, e3]
        (try omega)
  · simp (maxSteps := 4000000) -dsimp [-List.all_eq_true, -Array.all_eq_true, -Bool.exists_bool, -Bool.forall_bool, vcsE1, vcsE2, vcsE3, vcsE4, vcsE5, vcsE6, vcsE7, vcsE8, vcsE9, vcsE10, vcsE11, vcsE12, vcsE13, vcsE14, vcsE15, vcsE16, vcsE17, vcsE18, vcsE19, Sx.get, Sx.look, Sx.put, pureFn, findOrd, unF, dstOk, isFloatT, endVC, resFn, packC, newFn, storeFn, buildFn, undef, known, aggT, cellsC, Value.cells, findCon, Con.pure, Con.some, allV, partsV, partsC, fillL, Sx.exitTo, fAr, C.one, Value.oneCell', eqFn, eqFieldsFn, eqElemsFn, partFn, and_assoc, List.zipIdx, sliceFn, boundFn, AppV, CopyV, MakeSliceV, NewsV, GrowV, TextV, bytesL, notInt, typeAt, argAt, Con.read, Con.make, Con.ext, Con.rel, den, Con.extS, Con.draw, Con.step, Draws.steps, Tryz.f164, sArgC, l5AtC, sPresetC, counterM, hk, a0]
def sCountC_S : Reads Tryz.prog 164 where
  ι := ((M) × (Int) × (Option Addr) × (Nat) × (List Dev) × (Bool))
  A := fun (i : ((M) × (Int) × (Option Addr) × (Nat) × (List Dev) × (Bool))) => match i with | (m, op, o, cap, xs, v) => [.agg (cells m), .agg #[.int .i64 op, .slice o xs.length cap], .bool v]
  pre := fun (i : ((M) × (Int) × (Option Addr) × (Nat) × (List Dev) × (Bool))) (F : Facts) => match i with | (m, op, o, cap, xs, v) => RdD F o xs ∧ MOk m
  res := fun (i : ((M) × (Int) × (Option Addr) × (Nat) × (List Dev) × (Bool))) => match i with | (m, op, o, cap, xs, v) => .agg (cells (counterM m (argD xs 0).k (argD xs 0).n (presetOf m (argD xs 1)) v))
  mono := by
    intro i F G hs h
    first | exact h | exact h.mono hs | exact ⟨h.1.mono hs, h.2⟩ | exact ⟨h.1.mono hs, h.2.1.mono hs, h.2.2⟩ | exact ⟨h.1.mono hs, h.2.1.mono hs⟩
  uniq := by
    rintro ⟨m, op, o, cap, xs, v⟩ ⟨m', op', o', cap', xs', v'⟩ F hA h h'
    simp at hA
    (try simp only [Int.natCast_inj] at hA)
    obtain rfl : xs = xs' := RdD.uniq h.1 h'.1 (by simp_all) (by simp_all)
    simp_all
  enter := Tryz.call164
  h := fun i w hp => sCountC_c i.1 i.2.1 i.2.2.1 i.2.2.2.1 i.2.2.2.2.1 i.2.2.2.2.2 w (by rw [factF_init]; exact hp)
def sCountC : Con Tryz.prog := Con.read sCountC_S
theorem sCountC_rw {m : M} {op : Int} {o : Option Addr} {cap : Nat} {xs : List Dev} {v : Bool} {d : Nat} {cx : Cx} {mem : List Blk} {K : C → Prop} (hpre : RdD (nowF cx mem) o xs ∧ MOk m) : ReadV d sCountC_S cx [.v (.agg (cells m)), .v (.agg #[.int .i64 op, .slice o xs.length cap]), .v (.bool v)] mem K = K (.v (.agg (cells (counterM m (argD xs 0).k (argD xs 0).n (presetOf m (argD xs 1)) v)))) := sCountC_S.eq (m, op, o, cap, xs, v) rfl hpre
end Go.Proofs.YtmiicjgbhkjocaaGreat
