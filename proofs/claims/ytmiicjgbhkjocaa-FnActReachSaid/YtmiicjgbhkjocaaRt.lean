/-
  Contracts: numbers as texts, by the reference; memories compared by their texts.
-/
import Derived.Test.YtmiicjgbhkjocaaTx
import Derived.Test.YtmiicjgbhkjocaaA
import Derived.Test.YtmiicjgbhkjocaaSz
import Derived.Test.YtmiicjgbhkjocaaSm
set_option linter.unusedVariables false
set_option linter.unusedSimpArgs false
set_option maxRecDepth 100000
set_option maxHeartbeats 4000000
namespace Go.Proofs.Ytmiicjgbhkjocaa
open Go Go.Sx

theorem tmod_nat (k : Nat) : (k : Int).tmod 10 = ((k % 10 : Nat) : Int) := by rw [Int.tmod_eq_emod_of_nonneg (by omega)]; omega
theorem tdiv_nat (k : Nat) : (k : Int).tdiv 10 = ((k / 10 : Nat) : Int) := by rw [Int.tdiv_eq_ediv_of_nonneg (by omega)]; omega
theorem dig_byte {k : Nat} (h : k ≤ 9) : UInt8.ofNat (IntKind.u8.wrap (IntKind.i64.wrap (48 + (k : Int)))).toNat = digU k := by
  rw [wrap_i64 (by omega) (by omega), wrap_u8 (by omega) (by omega)]
  unfold digU
  congr 1
theorem sDecPC_c (n : Int) (hpre : 0 ≤ n ∧ n ≤ 9223372036854775807) (w : World) : Calls Try.prog 203 #[.int .i64 n] w fun e w' => e = .returned (.string (txt (decL n.toNat))) ∧ RowKit.Below w.heap.size w w' := by
  refine (plain_of_vcs ⟨[], []⟩ hmx Try.func203 rfl (by kernel_rfl) (args := [.int .i64 n]) (by simp [Try.ntmps203]) w (· = .string (txt (decL n.toNat))) 400 ?_).mono fun e w' ⟨v, h1, h2, h3⟩ => ⟨h2 ▸ h1, h3⟩
  obtain ⟨h0, h1⟩ := hpre
  have a1 : ¬ n < -9223372036854775807 := by omega
  have a2 : ¬ n < 0 := by omega
  simp (maxSteps := 4000000) -dsimp [-List.all_eq_true, -Array.all_eq_true, -Bool.exists_bool, -Bool.forall_bool, vcsE1, vcsE2, vcsE3, vcsE4, vcsE5, vcsE6, vcsE7, vcsE8, vcsE9, vcsE10, vcsE11, vcsE12, vcsE13, vcsE14, vcsE15, vcsE16, vcsE17, vcsE18, vcsE19, Sx.get, Sx.look, Sx.put, pureFn, findOrd, unF, dstOk, isFloatT, endVC, resFn, packC, newFn, storeFn, buildFn, undef, known, aggT, cellsC, Value.cells, findCon, Con.pure, Con.some, allV, partsV, partsC, fillL, Sx.exitTo, fAr, C.one, Value.oneCell', eqFn, eqFieldsFn, eqElemsFn, partFn, and_assoc, List.zipIdx, sliceFn, boundFn, AppV, CopyV, MakeSliceV, NewsV, GrowV, TextV, bytesL, notInt, typeAt, argAt, Con.read, Con.make, Con.ext, Con.rel, den, Con.extS, Con.draw, Con.step, Draws.steps, Try.f203, a1, a2, txt_eta]
  refine loop_inv (σ := ⟨[], []⟩) hmx (by kernel_rfl) (fun q cx tm mem => Le ⟨w, [], w, []⟩ cx ∧ mem = [] ∧ ∃ (k : Nat) (out : List UInt8), k = q ∧ (k : Int) ≤ n ∧ decL n.toNat = decL k ++ out ∧ Sx.look tm 0 = .v (.int .i64 k) ∧ Sx.look tm 3 = .v (.string (txt out)))
    n.toNat ⟨Le.refl _, rfl, n.toNat, [], rfl, by omega, by simp, by simp [Sx.look]; omega, by simp [Sx.look]⟩ ?_
  rintro q cx tm mem ⟨hle, rfl, k, out, hq, hk, hd, j0, j3⟩
  refine ⟨300, ?_⟩
  have hlen : (decL n.toNat).length ≤ 20 := decL_len _ 19 (by omega)
  rw [hd, List.length_append] at hlen
  have hl1 := decL_len1 k
  by_cases hlt : (9 : Int) < k
  · have e1 := dig_byte (k := k % 10) (by omega)
    have e2 := decL_up (n := k) (by omega)
    simp (maxSteps := 4000000) -dsimp [-List.all_eq_true, -Array.all_eq_true, -Bool.exists_bool, -Bool.forall_bool, vcsE1, vcsE2, vcsE3, vcsE4, vcsE5, vcsE6, vcsE7, vcsE8, vcsE9, vcsE10, vcsE11, vcsE12, vcsE13, vcsE14, vcsE15, vcsE16, vcsE17, vcsE18, vcsE19, Sx.get, Sx.look, Sx.put, pureFn, findOrd, unF, dstOk, isFloatT, endVC, resFn, packC, newFn, storeFn, buildFn, undef, known, aggT, cellsC, Value.cells, findCon, Con.pure, Con.some, allV, partsV, partsC, fillL, Sx.exitTo, fAr, C.one, Value.oneCell', eqFn, eqFieldsFn, eqElemsFn, partFn, and_assoc, List.zipIdx, sliceFn, boundFn, AppV, CopyV, MakeSliceV, NewsV, GrowV, TextV, bytesL, notInt, typeAt, argAt, Con.read, Con.make, Con.ext, Con.rel, den, Con.extS, Con.draw, Con.step, Draws.steps, Try.f203, j0, j3, hlt, tmod_nat, tdiv_nat]
    intro cx1 p hle1 hl1'
    rw [RdL.sl (hl1'.mono ((sub_new cx1).trans (sub_now _ _))) (by rfl)]
    have e0 : (k : Int) % 10 = ((k % 10 : Nat) : Int) := by omega
    simp (maxSteps := 4000000) -dsimp [-List.all_eq_true, -Array.all_eq_true, -Bool.exists_bool, -Bool.forall_bool, vcsE1, vcsE2, vcsE3, vcsE4, vcsE5, vcsE6, vcsE7, vcsE8, vcsE9, vcsE10, vcsE11, vcsE12, vcsE13, vcsE14, vcsE15, vcsE16, vcsE17, vcsE18, vcsE19, Sx.get, Sx.look, Sx.put, pureFn, findOrd, unF, dstOk, isFloatT, endVC, resFn, packC, newFn, storeFn, buildFn, undef, known, aggT, cellsC, Value.cells, findCon, Con.pure, Con.some, allV, partsV, partsC, fillL, Sx.exitTo, fAr, C.one, Value.oneCell', eqFn, eqFieldsFn, eqElemsFn, partFn, and_assoc, List.zipIdx, sliceFn, boundFn, AppV, CopyV, MakeSliceV, NewsV, GrowV, TextV, bytesL, notInt, typeAt, argAt, Con.read, Con.make, Con.ext, Con.rel, den, Con.extS, Con.draw, Con.step, Draws.steps, Try.f203, j0, j3, hlt, tmod_nat, tdiv_nat, bytesL, txt_eta]
    refine ⟨by omega, k / 10, by omega, hle.trans hle1, by omega, ?_, ?_⟩
    · rw [e0, e1, hd, e2]; simp
    · rw [wrap_i64 (by omega) (by omega)]; omega
  · have e1 := dig_byte (k := k) (by omega)
    simp (maxSteps := 4000000) -dsimp [-List.all_eq_true, -Array.all_eq_true, -Bool.exists_bool, -Bool.forall_bool, vcsE1, vcsE2, vcsE3, vcsE4, vcsE5, vcsE6, vcsE7, vcsE8, vcsE9, vcsE10, vcsE11, vcsE12, vcsE13, vcsE14, vcsE15, vcsE16, vcsE17, vcsE18, vcsE19, Sx.get, Sx.look, Sx.put, pureFn, findOrd, unF, dstOk, isFloatT, endVC, resFn, packC, newFn, storeFn, buildFn, undef, known, aggT, cellsC, Value.cells, findCon, Con.pure, Con.some, allV, partsV, partsC, fillL, Sx.exitTo, fAr, C.one, Value.oneCell', eqFn, eqFieldsFn, eqElemsFn, partFn, and_assoc, List.zipIdx, sliceFn, boundFn, AppV, CopyV, MakeSliceV, NewsV, GrowV, TextV, bytesL, notInt, typeAt, argAt, Con.read, Con.make, Con.ext, Con.rel, den, Con.extS, Con.draw, Con.step, Draws.steps, Try.f203, j0, j3, hlt]
    intro cx1 p hle1 hl1'
    rw [RdL.sl (hl1'.mono ((sub_new cx1).trans (sub_now _ _))) (by rfl)]
    simp (maxSteps := 4000000) -dsimp [-List.all_eq_true, -Array.all_eq_true, -Bool.exists_bool, -Bool.forall_bool, vcsE1, vcsE2, vcsE3, vcsE4, vcsE5, vcsE6, vcsE7, vcsE8, vcsE9, vcsE10, vcsE11, vcsE12, vcsE13, vcsE14, vcsE15, vcsE16, vcsE17, vcsE18, vcsE19, Sx.get, Sx.look, Sx.put, pureFn, findOrd, unF, dstOk, isFloatT, endVC, resFn, packC, newFn, storeFn, buildFn, undef, known, aggT, cellsC, Value.cells, findCon, Con.pure, Con.some, allV, partsV, partsC, fillL, Sx.exitTo, fAr, C.one, Value.oneCell', eqFn, eqFieldsFn, eqElemsFn, partFn, and_assoc, List.zipIdx, sliceFn, boundFn, AppV, CopyV, MakeSliceV, NewsV, GrowV, TextV, bytesL, notInt, typeAt, argAt, Con.read, Con.make, Con.ext, Con.rel, den, Con.extS, Con.draw, Con.step, Draws.steps, Try.f203, j0, j3, hlt, e1, bytesL, txt_eta]
    exact ⟨by omega, (hle.trans hle1).w0, (hle.trans hle1).g0, by rw [hd, decL_low (by omega)]; rfl⟩
def sDecPC : Con Try.prog := Con.pure 203 Try.call203 (fun (n : ((Int))) => [.int .i64 n]) (fun (n : ((Int))) => 0 ≤ n ∧ n ≤ 9223372036854775807) (fun (n : ((Int))) => .string (txt (decL n.toNat))) fun n w hp => sDecPC_c n hp w
theorem sDecNC_c (n : Int) (hpre : -9223372036854775807 ≤ n ∧ n < 0) (w : World) : Calls Try.prog 203 #[.int .i64 n] w fun e w' => e = .returned (.string (txt (45 :: decL n.natAbs))) ∧ RowKit.Below w.heap.size w w' := by
  refine (plain_of_vcs ⟨[sDecPC], []⟩ hmx Try.func203 rfl (by kernel_rfl) (args := [.int .i64 n]) (by simp [Try.ntmps203]) w (· = .string (txt (45 :: decL n.natAbs))) 400 ?_).mono fun e w' ⟨v, h1, h2, h3⟩ => ⟨h2 ▸ h1, h3⟩
  obtain ⟨h0, hn⟩ := hpre
  have a1 : ¬ n < -9223372036854775807 := by omega
  have hlen : (decL n.natAbs).length ≤ 20 := decL_len _ 19 (by omega)
  have e1 : IntKind.i64.wrap (-n) = -n := wrap_i64 (by omega) (by omega)
  have e2 : (-n).toNat = n.natAbs := by omega
  have e3 : 0 ≤ -n ∧ -n ≤ 9223372036854775807 := by omega
  simp (maxSteps := 4000000) -dsimp [-List.all_eq_true, -Array.all_eq_true, -Bool.exists_bool, -Bool.forall_bool, vcsE1, vcsE2, vcsE3, vcsE4, vcsE5, vcsE6, vcsE7, vcsE8, vcsE9, vcsE10, vcsE11, vcsE12, vcsE13, vcsE14, vcsE15, vcsE16, vcsE17, vcsE18, vcsE19, Sx.get, Sx.look, Sx.put, pureFn, findOrd, unF, dstOk, isFloatT, endVC, resFn, packC, newFn, storeFn, buildFn, undef, known, aggT, cellsC, Value.cells, findCon, Con.pure, Con.some, allV, partsV, partsC, fillL, Sx.exitTo, fAr, C.one, Value.oneCell', eqFn, eqFieldsFn, eqElemsFn, partFn, and_assoc, List.zipIdx, sliceFn, boundFn, AppV, CopyV, MakeSliceV, NewsV, GrowV, TextV, bytesL, notInt, typeAt, argAt, Con.read, Con.make, Con.ext, Con.rel, den, Con.extS, Con.draw, Con.step, Draws.steps, Try.f203, sDecPC, a1, hn, e1, e2, e3, txt_eta]
  omega
def sDecNC : Con Try.prog := Con.pure 203 Try.call203 (fun (n : ((Int))) => [.int .i64 n]) (fun (n : ((Int))) => -9223372036854775807 ≤ n ∧ n < 0) (fun (n : ((Int))) => .string (txt (45 :: decL n.natAbs))) fun n w hp => sDecNC_c n hp w
theorem sDecC_c (n : Int) (hpre : -9223372036854775807 ≤ n ∧ n ≤ 9223372036854775807) (w : World) : Calls Try.prog 203 #[.int .i64 n] w fun e w' => e = .returned (.string (txt (decZ n))) ∧ RowKit.Below w.heap.size w w' := by
  by_cases hn : n < 0
  · have e : decZ n = 45 :: decL n.natAbs := by unfold decZ; rw [if_pos hn]
    rw [e]
    exact sDecNC_c n ⟨hpre.1, hn⟩ w
  · have e : decZ n = decL n.toNat := by unfold decZ; rw [if_neg hn]; congr 1; omega
    rw [e]
    exact sDecPC_c n ⟨by omega, hpre.2⟩ w
def sDecC : Con Try.prog := Con.pure 203 Try.call203 (fun (n : Int) => [.int .i64 n]) (fun (n : Int) => -9223372036854775807 ≤ n ∧ n ≤ 9223372036854775807) (fun (n : Int) => .string (txt (decZ n))) fun n w hp => sDecC_c n hp w
theorem f64_fmt : FloatKind.f64.format = dbl := rfl
theorem l3PlainC_c (x : Nat) (hpre : dbl.read x = .infinity false ∨ ∃ m i, dbl.read x = .number false m i ∧ m ≠ 0) (w : World) : Calls Try.prog 183 #[.float .f64 x] w fun e w' => e = .returned (.string (txt (realL x))) ∧ RowKit.Below w.heap.size w w' := by
  refine (plain_of_vcs ⟨[sDecC], []⟩ hmx Try.func183 rfl (by kernel_rfl) (args := [.float .f64 x]) (by simp [Try.ntmps183]) w (· = .string (txt (realL x))) 400 ?_).mono fun e w' ⟨v, h1, h2, h3⟩ => ⟨h2 ▸ h1, h3⟩
  rcases hpre with hr | ⟨m, i, hr, hm⟩
  · have e : realL x = [105, 110, 102] := by unfold realL; rw [hr]; rfl
    rw [e]
    simp (maxSteps := 4000000) -dsimp [-List.all_eq_true, -Array.all_eq_true, -Bool.exists_bool, -Bool.forall_bool, vcsE1, vcsE2, vcsE3, vcsE4, vcsE5, vcsE6, vcsE7, vcsE8, vcsE9, vcsE10, vcsE11, vcsE12, vcsE13, vcsE14, vcsE15, vcsE16, vcsE17, vcsE18, vcsE19, Sx.get, Sx.look, Sx.put, pureFn, findOrd, unF, dstOk, isFloatT, endVC, resFn, packC, newFn, storeFn, buildFn, undef, known, aggT, cellsC, Value.cells, findCon, Con.pure, Con.some, allV, partsV, partsC, fillL, Sx.exitTo, fAr, C.one, Value.oneCell', eqFn, eqFieldsFn, eqElemsFn, partFn, and_assoc, List.zipIdx, sliceFn, boundFn, AppV, CopyV, MakeSliceV, NewsV, GrowV, TextV, bytesL, notInt, typeAt, argAt, Con.read, Con.make, Con.ext, Con.rel, den, Con.extS, Con.draw, Con.step, Draws.steps, Try.f183, sDecC, f64_fmt, gtMax_inf hr, txt_eta]
  · have e : realL x = plainL m i := by unfold realL; rw [hr]; simp [hm]
    rw [e]
    obtain ⟨nn1, nn2, nn3, nn4⟩ := read_norm hr
    simp (maxSteps := 4000000) -dsimp [-List.all_eq_true, -Array.all_eq_true, -Bool.exists_bool, -Bool.forall_bool, vcsE1, vcsE2, vcsE3, vcsE4, vcsE5, vcsE6, vcsE7, vcsE8, vcsE9, vcsE10, vcsE11, vcsE12, vcsE13, vcsE14, vcsE15, vcsE16, vcsE17, vcsE18, vcsE19, Sx.get, Sx.look, Sx.put, pureFn, findOrd, unF, dstOk, isFloatT, endVC, resFn, packC, newFn, storeFn, buildFn, undef, known, aggT, cellsC, Value.cells, findCon, Con.pure, Con.some, allV, partsV, partsC, fillL, Sx.exitTo, fAr, C.one, Value.oneCell', eqFn, eqFieldsFn, eqElemsFn, partFn, and_assoc, List.zipIdx, sliceFn, boundFn, AppV, CopyV, MakeSliceV, NewsV, GrowV, TextV, bytesL, notInt, typeAt, argAt, Con.read, Con.make, Con.ext, Con.rel, den, Con.extS, Con.draw, Con.step, Draws.steps, Try.f183, sDecC, f64_fmt, gtMax hr, txt_eta]
    refine loop_inv (σ := ⟨[sDecC], []⟩) hmx (by kernel_rfl) (fun q cx tm mem => cx = ⟨w, [], w, []⟩ ∧ mem = [] ∧ ∃ (y : Nat) (e ic : Int), q = ic.toNat ∧ Dn m i y e ic ∧ Sx.look tm 0 = .v (.float .f64 y) ∧ Sx.look tm 3 = .v (.int .i64 e))
      i.toNat ⟨rfl, rfl, x, 0, i, rfl, ⟨hr, by omega, by omega⟩, by simp [Sx.look], by simp [Sx.look]⟩ ?_
    rintro q cx tm mem ⟨rfl, rfl, y, e, ic, rfl, hd, j0, j3⟩
    refine ⟨300, ?_⟩
    have hn2 := read_norm hd.rd
    by_cases hi : 1 ≤ ic
    · obtain ⟨z, hz, hd2⟩ := hd.step hi
      simp (maxSteps := 4000000) -dsimp [-List.all_eq_true, -Array.all_eq_true, -Bool.exists_bool, -Bool.forall_bool, vcsE1, vcsE2, vcsE3, vcsE4, vcsE5, vcsE6, vcsE7, vcsE8, vcsE9, vcsE10, vcsE11, vcsE12, vcsE13, vcsE14, vcsE15, vcsE16, vcsE17, vcsE18, vcsE19, Sx.get, Sx.look, Sx.put, pureFn, findOrd, unF, dstOk, isFloatT, endVC, resFn, packC, newFn, storeFn, buildFn, undef, known, aggT, cellsC, Value.cells, findCon, Con.pure, Con.some, allV, partsV, partsC, fillL, Sx.exitTo, fAr, C.one, Value.oneCell', eqFn, eqFieldsFn, eqElemsFn, partFn, and_assoc, List.zipIdx, sliceFn, boundFn, AppV, CopyV, MakeSliceV, NewsV, GrowV, TextV, bytesL, notInt, typeAt, argAt, Con.read, Con.make, Con.ext, Con.rel, den, Con.extS, Con.draw, Con.step, Draws.steps, Try.f183, sDecC, j0, j3, f64_fmt, ge53 hd.rd, hi, fAr, fRes, hz]
      exact ⟨(ic - 1).toNat, by omega, z, e + 1, ic - 1, rfl, hd2, rfl, wrap_i64 (by have := hd.ee; have := hd.lo; omega) (by have := hd.ee; have := hn2.lo; omega)⟩
    · have hu0 := hd.up hm (by omega)
      simp (maxSteps := 4000000) -dsimp [-List.all_eq_true, -Array.all_eq_true, -Bool.exists_bool, -Bool.forall_bool, vcsE1, vcsE2, vcsE3, vcsE4, vcsE5, vcsE6, vcsE7, vcsE8, vcsE9, vcsE10, vcsE11, vcsE12, vcsE13, vcsE14, vcsE15, vcsE16, vcsE17, vcsE18, vcsE19, Sx.get, Sx.look, Sx.put, pureFn, findOrd, unF, dstOk, isFloatT, endVC, resFn, packC, newFn, storeFn, buildFn, undef, known, aggT, cellsC, Value.cells, findCon, Con.pure, Con.some, allV, partsV, partsC, fillL, Sx.exitTo, fAr, C.one, Value.oneCell', eqFn, eqFieldsFn, eqElemsFn, partFn, and_assoc, List.zipIdx, sliceFn, boundFn, AppV, CopyV, MakeSliceV, NewsV, GrowV, TextV, bytesL, notInt, typeAt, argAt, Con.read, Con.make, Con.ext, Con.rel, den, Con.extS, Con.draw, Con.step, Draws.steps, Try.f183, sDecC, j0, j3, f64_fmt, ge53 hd.rd, hi]
      refine loop_inv (σ := ⟨[sDecC], []⟩) hmx (by kernel_rfl) (fun q cx tm mem => cx = ⟨w, [], w, []⟩ ∧ mem = [] ∧ ∃ (y : Nat) (e : Int) (mc : Nat) (ic : Int), q = mesUp mc ic ∧ Up m i y e mc ic ∧ Sx.look tm 0 = .v (.float .f64 y) ∧ Sx.look tm 3 = .v (.int .i64 e))
        (mesUp m ic) ⟨rfl, rfl, y, e, m, ic, rfl, hu0, by first | exact j0 | simp [Sx.look, j0], by first | exact j3 | simp [Sx.look, j3]⟩ ?_
      rintro q cx tm mem ⟨rfl, rfl, y, e, mc, ic, rfl, hu, j0, j3⟩
      refine ⟨300, ?_⟩
      have hub := hu.bd hm
      have hul := hu.le
      by_cases hi : ic < 0
      · obtain ⟨z, mc', ic', hz, hu2, hms⟩ := hu.step hi
        simp (maxSteps := 4000000) -dsimp [-List.all_eq_true, -Array.all_eq_true, -Bool.exists_bool, -Bool.forall_bool, vcsE1, vcsE2, vcsE3, vcsE4, vcsE5, vcsE6, vcsE7, vcsE8, vcsE9, vcsE10, vcsE11, vcsE12, vcsE13, vcsE14, vcsE15, vcsE16, vcsE17, vcsE18, vcsE19, Sx.get, Sx.look, Sx.put, pureFn, findOrd, unF, dstOk, isFloatT, endVC, resFn, packC, newFn, storeFn, buildFn, undef, known, aggT, cellsC, Value.cells, findCon, Con.pure, Con.some, allV, partsV, partsC, fillL, Sx.exitTo, fAr, C.one, Value.oneCell', eqFn, eqFieldsFn, eqElemsFn, partFn, and_assoc, List.zipIdx, sliceFn, boundFn, AppV, CopyV, MakeSliceV, NewsV, GrowV, TextV, bytesL, notInt, typeAt, argAt, Con.read, Con.make, Con.ext, Con.rel, den, Con.extS, Con.draw, Con.step, Draws.steps, Try.f183, sDecC, j0, j3, f64_fmt, lt52 hu.rd, hi, fAr, fRes, hz]
        exact ⟨_, hms, z, e - 1, mc', ic', rfl, hu2, rfl, wrap_i64 (by omega) (by omega)⟩
      · obtain ⟨ho0, hic⟩ := hu.od hi
        subst hic
        simp (maxSteps := 4000000) -dsimp [-List.all_eq_true, -Array.all_eq_true, -Bool.exists_bool, -Bool.forall_bool, vcsE1, vcsE2, vcsE3, vcsE4, vcsE5, vcsE6, vcsE7, vcsE8, vcsE9, vcsE10, vcsE11, vcsE12, vcsE13, vcsE14, vcsE15, vcsE16, vcsE17, vcsE18, vcsE19, Sx.get, Sx.look, Sx.put, pureFn, findOrd, unF, dstOk, isFloatT, endVC, resFn, packC, newFn, storeFn, buildFn, undef, known, aggT, cellsC, Value.cells, findCon, Con.pure, Con.some, allV, partsV, partsC, fillL, Sx.exitTo, fAr, C.one, Value.oneCell', eqFn, eqFieldsFn, eqElemsFn, partFn, and_assoc, List.zipIdx, sliceFn, boundFn, AppV, CopyV, MakeSliceV, NewsV, GrowV, TextV, bytesL, notInt, typeAt, argAt, Con.read, Con.make, Con.ext, Con.rel, den, Con.extS, Con.draw, Con.step, Draws.steps, Try.f183, sDecC, j0, j3, f64_fmt, lt52 hu.rd, hi]
        intro r hr2
        have hr3 := int_of hu.rd hr2
        subst hr3
        generalize he0 : e = e0 at ho0
        refine loop_inv (σ := ⟨[sDecC], []⟩) hmx (by kernel_rfl) (fun q cx tm mem => cx = ⟨w, [], w, []⟩ ∧ mem = [] ∧ ∃ (n : Nat) (e : Int), n = q ∧ Od m i n e e0 ∧ Sx.look tm 4 = .v (.int .i64 n) ∧ Sx.look tm 3 = .v (.int .i64 e))
          mc ⟨rfl, rfl, mc, e, rfl, by rw [he0]; exact ho0, by simp [Sx.look], by first | exact j3 | simp [Sx.look, j3]⟩ ?_
        rintro q cx tm mem ⟨rfl, rfl, n, e', hnq, ho, j4, j3⟩
        refine ⟨300, ?_⟩
        have hob := ho.bd
        have hog := ho.ge
        have hne := ho.ne
        by_cases hpar : n % 2 = 0
        · have h1 : (n : Int).tmod 2 = 0 := by rw [Int.tmod_eq_emod_of_nonneg (by omega)]; omega
          have h2 : 0 < n := by omega
          simp (maxSteps := 4000000) -dsimp [-List.all_eq_true, -Array.all_eq_true, -Bool.exists_bool, -Bool.forall_bool, vcsE1, vcsE2, vcsE3, vcsE4, vcsE5, vcsE6, vcsE7, vcsE8, vcsE9, vcsE10, vcsE11, vcsE12, vcsE13, vcsE14, vcsE15, vcsE16, vcsE17, vcsE18, vcsE19, Sx.get, Sx.look, Sx.put, pureFn, findOrd, unF, dstOk, isFloatT, endVC, resFn, packC, newFn, storeFn, buildFn, undef, known, aggT, cellsC, Value.cells, findCon, Con.pure, Con.some, allV, partsV, partsC, fillL, Sx.exitTo, fAr, C.one, Value.oneCell', eqFn, eqFieldsFn, eqElemsFn, partFn, and_assoc, List.zipIdx, sliceFn, boundFn, AppV, CopyV, MakeSliceV, NewsV, GrowV, TextV, bytesL, notInt, typeAt, argAt, Con.read, Con.make, Con.ext, Con.rel, den, Con.extS, Con.draw, Con.step, Draws.steps, Try.f183, sDecC, j4, j3, h1, h2]
          have hs := ho.step hpar
          exact ⟨n / 2, by omega, by rw [wrap_i64 (by omega) (by omega)]; exact hs, by rw [wrap_i64 (by omega) (by omega)]; omega⟩
        · have h1 : ¬ (n : Int).tmod 2 = 0 := by rw [Int.tmod_eq_emod_of_nonneg (by omega)]; omega
          obtain ⟨f1, f2⟩ := ho.fin hm (by omega)
          have l1 := decZ_len (n := (n : Int)) (by omega)
          have l2 := decZ_len (n := e') (by omega)
          have ez : decZ (n : Int) = decL n := by unfold decZ; rw [if_neg (by omega)]; rfl
          simp (maxSteps := 4000000) -dsimp [-List.all_eq_true, -Array.all_eq_true, -Bool.exists_bool, -Bool.forall_bool, vcsE1, vcsE2, vcsE3, vcsE4, vcsE5, vcsE6, vcsE7, vcsE8, vcsE9, vcsE10, vcsE11, vcsE12, vcsE13, vcsE14, vcsE15, vcsE16, vcsE17, vcsE18, vcsE19, Sx.get, Sx.look, Sx.put, pureFn, findOrd, unF, dstOk, isFloatT, endVC, resFn, packC, newFn, storeFn, buildFn, undef, known, aggT, cellsC, Value.cells, findCon, Con.pure, Con.some, allV, partsV, partsC, fillL, Sx.exitTo, fAr, C.one, Value.oneCell', eqFn, eqFieldsFn, eqElemsFn, partFn, and_assoc, List.zipIdx, sliceFn, boundFn, AppV, CopyV, MakeSliceV, NewsV, GrowV, TextV, bytesL, notInt, typeAt, argAt, Con.read, Con.make, Con.ext, Con.rel, den, Con.extS, Con.draw, Con.step, Draws.steps, Try.f183, sDecC, j4, j3, h1]
          refine ⟨by omega, by omega, by omega, by omega, by omega, ?_⟩
          unfold plainL
          rw [ez, f2, ← f1]; rfl
def l3PlainC : Con Try.prog := Con.pure 183 Try.call183 (fun (x : ((Nat))) => [.float .f64 x]) (fun (x : ((Nat))) => dbl.read x = .infinity false ∨ ∃ m i, dbl.read x = .number false m i ∧ m ≠ 0) (fun (x : ((Nat))) => .string (txt (realL x))) fun x w hp => l3PlainC_c x hp w
theorem sRealTextC_c (x : Nat) (hpre : x < 18446744073709551616) (w : World) : Calls Try.prog 141 #[.float .f64 x] w fun e w' => e = .returned (.string (txt (realL x))) ∧ RowKit.Below w.heap.size w w' := by
  refine (plain_of_vcs ⟨[l3PlainC], []⟩ hmx Try.func141 rfl (by kernel_rfl) (args := [.float .f64 x]) (by simp [Try.ntmps141]) w (· = .string (txt (realL x))) 400 ?_).mono fun e w' ⟨v, h1, h2, h3⟩ => ⟨h2 ▸ h1, h3⟩
  cases hr : dbl.read x with
  | nan s t =>
    have hn : isNan x = true := by unfold isNan; rw [hr]; rfl
    rw [realL_nan hn]
    simp (maxSteps := 4000000) -dsimp [-List.all_eq_true, -Array.all_eq_true, -Bool.exists_bool, -Bool.forall_bool, vcsE1, vcsE2, vcsE3, vcsE4, vcsE5, vcsE6, vcsE7, vcsE8, vcsE9, vcsE10, vcsE11, vcsE12, vcsE13, vcsE14, vcsE15, vcsE16, vcsE17, vcsE18, vcsE19, Sx.get, Sx.look, Sx.put, pureFn, findOrd, unF, dstOk, isFloatT, endVC, resFn, packC, newFn, storeFn, buildFn, undef, known, aggT, cellsC, Value.cells, findCon, Con.pure, Con.some, allV, partsV, partsC, fillL, Sx.exitTo, fAr, C.one, Value.oneCell', eqFn, eqFieldsFn, eqElemsFn, partFn, and_assoc, List.zipIdx, sliceFn, boundFn, AppV, CopyV, MakeSliceV, NewsV, GrowV, TextV, bytesL, notInt, typeAt, argAt, Con.read, Con.make, Con.ext, Con.rel, den, Con.extS, Con.draw, Con.step, Draws.steps, Try.f141, l3PlainC, f64_fmt, ord_self_nan hn, txt_eta]
  | infinity s =>
    have hn := inf_notNan hr
    cases s
    · have e : realL x = [105, 110, 102] := by unfold realL; rw [hr]; rfl
      simp (maxSteps := 4000000) -dsimp [-List.all_eq_true, -Array.all_eq_true, -Bool.exists_bool, -Bool.forall_bool, vcsE1, vcsE2, vcsE3, vcsE4, vcsE5, vcsE6, vcsE7, vcsE8, vcsE9, vcsE10, vcsE11, vcsE12, vcsE13, vcsE14, vcsE15, vcsE16, vcsE17, vcsE18, vcsE19, Sx.get, Sx.look, Sx.put, pureFn, findOrd, unF, dstOk, isFloatT, endVC, resFn, packC, newFn, storeFn, buildFn, undef, known, aggT, cellsC, Value.cells, findCon, Con.pure, Con.some, allV, partsV, partsC, fillL, Sx.exitTo, fAr, C.one, Value.oneCell', eqFn, eqFieldsFn, eqElemsFn, partFn, and_assoc, List.zipIdx, sliceFn, boundFn, AppV, CopyV, MakeSliceV, NewsV, GrowV, TextV, bytesL, notInt, typeAt, argAt, Con.read, Con.make, Con.ext, Con.rel, den, Con.extS, Con.draw, Con.step, Draws.steps, Try.f141, l3PlainC, f64_fmt, ord_selfU hn, ord_zero_inf hr, txt_eta, hr]
    · have e : realL x = [45, 105, 110, 102] := by unfold realL; rw [hr]; rfl
      have h2 := neg_infU hpre hr
      have e2 : realL (Op.negFloat .f64 x) = [105, 110, 102] := by unfold realL; rw [h2]; rfl
      simp (maxSteps := 4000000) -dsimp [-List.all_eq_true, -Array.all_eq_true, -Bool.exists_bool, -Bool.forall_bool, vcsE1, vcsE2, vcsE3, vcsE4, vcsE5, vcsE6, vcsE7, vcsE8, vcsE9, vcsE10, vcsE11, vcsE12, vcsE13, vcsE14, vcsE15, vcsE16, vcsE17, vcsE18, vcsE19, Sx.get, Sx.look, Sx.put, pureFn, findOrd, unF, dstOk, isFloatT, endVC, resFn, packC, newFn, storeFn, buildFn, undef, known, aggT, cellsC, Value.cells, findCon, Con.pure, Con.some, allV, partsV, partsC, fillL, Sx.exitTo, fAr, C.one, Value.oneCell', eqFn, eqFieldsFn, eqElemsFn, partFn, and_assoc, List.zipIdx, sliceFn, boundFn, AppV, CopyV, MakeSliceV, NewsV, GrowV, TextV, bytesL, notInt, typeAt, argAt, Con.read, Con.make, Con.ext, Con.rel, den, Con.extS, Con.draw, Con.step, Draws.steps, Try.f141, l3PlainC, f64_fmt, ord_selfU hn, ord_zero_inf hr, txt_eta, h2, e, e2]
  | number s m i =>
    have hn := num_notNan hr
    have ho := ord_zeroU hr
    have hnm := read_norm hr
    by_cases h0 : m = 0
    · subst h0
      cases s
      · have e : realL x = [48] := by unfold realL; rw [hr]; rfl
        have od := one_zero hr
        have oi : dbl.order (dbl.word false dbl.infRung) 0 = some .gt := ord_zero_inf (read_inf false)
        simp only [if_true] at ho
        simp (maxSteps := 4000000) -dsimp [-List.all_eq_true, -Array.all_eq_true, -Bool.exists_bool, -Bool.forall_bool, vcsE1, vcsE2, vcsE3, vcsE4, vcsE5, vcsE6, vcsE7, vcsE8, vcsE9, vcsE10, vcsE11, vcsE12, vcsE13, vcsE14, vcsE15, vcsE16, vcsE17, vcsE18, vcsE19, Sx.get, Sx.look, Sx.put, pureFn, findOrd, unF, dstOk, isFloatT, endVC, resFn, packC, newFn, storeFn, buildFn, undef, known, aggT, cellsC, Value.cells, findCon, Con.pure, Con.some, allV, partsV, partsC, fillL, Sx.exitTo, fAr, C.one, Value.oneCell', eqFn, eqFieldsFn, eqElemsFn, partFn, and_assoc, List.zipIdx, sliceFn, boundFn, AppV, CopyV, MakeSliceV, NewsV, GrowV, TextV, bytesL, notInt, typeAt, argAt, Con.read, Con.make, Con.ext, Con.rel, den, Con.extS, Con.draw, Con.step, Draws.steps, Try.f141, l3PlainC, f64_fmt, ord_selfU hn, ho, txt_eta, e, fAr, fRes, od, oi]
      · have e : realL x = [45, 48] := by unfold realL; rw [hr]; rfl
        have od := one_zero hr
        have oi : dbl.order (dbl.word true dbl.infRung) 0 = some .lt := ord_zero_inf (read_inf true)
        simp only [if_true] at ho
        simp (maxSteps := 4000000) -dsimp [-List.all_eq_true, -Array.all_eq_true, -Bool.exists_bool, -Bool.forall_bool, vcsE1, vcsE2, vcsE3, vcsE4, vcsE5, vcsE6, vcsE7, vcsE8, vcsE9, vcsE10, vcsE11, vcsE12, vcsE13, vcsE14, vcsE15, vcsE16, vcsE17, vcsE18, vcsE19, Sx.get, Sx.look, Sx.put, pureFn, findOrd, unF, dstOk, isFloatT, endVC, resFn, packC, newFn, storeFn, buildFn, undef, known, aggT, cellsC, Value.cells, findCon, Con.pure, Con.some, allV, partsV, partsC, fillL, Sx.exitTo, fAr, C.one, Value.oneCell', eqFn, eqFieldsFn, eqElemsFn, partFn, and_assoc, List.zipIdx, sliceFn, boundFn, AppV, CopyV, MakeSliceV, NewsV, GrowV, TextV, bytesL, notInt, typeAt, argAt, Con.read, Con.make, Con.ext, Con.rel, den, Con.extS, Con.draw, Con.step, Draws.steps, Try.f141, l3PlainC, f64_fmt, ord_selfU hn, ho, txt_eta, e, fAr, fRes, od, oi]
    · cases s
      · simp only [h0, if_false, Bool.false_eq_true] at ho
        have hp : dbl.read x = .infinity false ∨ ∃ m i, dbl.read x = .number false m i ∧ m ≠ 0 := Or.inr ⟨m, i, hr, h0⟩
        simp (maxSteps := 4000000) -dsimp [-List.all_eq_true, -Array.all_eq_true, -Bool.exists_bool, -Bool.forall_bool, vcsE1, vcsE2, vcsE3, vcsE4, vcsE5, vcsE6, vcsE7, vcsE8, vcsE9, vcsE10, vcsE11, vcsE12, vcsE13, vcsE14, vcsE15, vcsE16, vcsE17, vcsE18, vcsE19, Sx.get, Sx.look, Sx.put, pureFn, findOrd, unF, dstOk, isFloatT, endVC, resFn, packC, newFn, storeFn, buildFn, undef, known, aggT, cellsC, Value.cells, findCon, Con.pure, Con.some, allV, partsV, partsC, fillL, Sx.exitTo, fAr, C.one, Value.oneCell', eqFn, eqFieldsFn, eqElemsFn, partFn, and_assoc, List.zipIdx, sliceFn, boundFn, AppV, CopyV, MakeSliceV, NewsV, GrowV, TextV, bytesL, notInt, typeAt, argAt, Con.read, Con.make, Con.ext, Con.rel, den, Con.extS, Con.draw, Con.step, Draws.steps, Try.f141, l3PlainC, f64_fmt, ord_selfU hn, ho, txt_eta]
        exact Or.inr ⟨m, ⟨i, hr⟩, h0⟩
      · simp only [h0, if_false, if_true] at ho
        have h2 := neg_num hpre hr
        have hp : dbl.read (Op.negFloat .f64 x) = .infinity false ∨ ∃ m i, dbl.read (Op.negFloat .f64 x) = .number false m i ∧ m ≠ 0 := Or.inr ⟨m, i, h2, h0⟩
        have e : realL x = 45 :: realL (Op.negFloat .f64 x) := by unfold realL; rw [hr, h2]; simp [h0]
        simp (maxSteps := 4000000) -dsimp [-List.all_eq_true, -Array.all_eq_true, -Bool.exists_bool, -Bool.forall_bool, vcsE1, vcsE2, vcsE3, vcsE4, vcsE5, vcsE6, vcsE7, vcsE8, vcsE9, vcsE10, vcsE11, vcsE12, vcsE13, vcsE14, vcsE15, vcsE16, vcsE17, vcsE18, vcsE19, Sx.get, Sx.look, Sx.put, pureFn, findOrd, unF, dstOk, isFloatT, endVC, resFn, packC, newFn, storeFn, buildFn, undef, known, aggT, cellsC, Value.cells, findCon, Con.pure, Con.some, allV, partsV, partsC, fillL, Sx.exitTo, fAr, C.one, Value.oneCell', eqFn, eqFieldsFn, eqElemsFn, partFn, and_assoc, List.zipIdx, sliceFn, boundFn, AppV, CopyV, MakeSliceV, NewsV, GrowV, TextV, bytesL, notInt, typeAt, argAt, Con.read, Con.make, Con.ext, Con.rel, den, Con.extS, Con.draw, Con.step, Draws.steps, Try.f141, l3PlainC, f64_fmt, ord_selfU hn, ho, txt_eta, e]
        have hl := realL_len (Op.negFloat .f64 x)
        exact ⟨Or.inr ⟨m, ⟨i, h2⟩, h0⟩, by omega⟩
def sRealTextC : Con Try.prog := Con.pure 141 Try.call141 (fun (x : ((Nat))) => [.float .f64 x]) (fun (x : ((Nat))) => x < 18446744073709551616) (fun (x : ((Nat))) => .string (txt (realL x))) fun x w hp => sRealTextC_c x hp w
theorem realL_eq {a b : Nat} (ha : a < 18446744073709551616) (hb : b < 18446744073709551616) : (realL a == realL b) = sameFB a b := by
  rw [Bool.eq_iff_iff, beq_iff_eq, sameFB_iff]
  exact ⟨realL_inj ha hb, realL_same⟩
theorem l5SameC_c (a b : Nat) (hpre : a < 18446744073709551616 ∧ b < 18446744073709551616) (w : World) : Calls Try.prog 69 #[.float .f64 a, .float .f64 b] w fun e w' => e = .returned (.bool (sameFB a b)) ∧ RowKit.Below w.heap.size w w' := by
  refine (plain_of_vcs ⟨[sRealTextC], []⟩ hmx Try.func69 rfl (by kernel_rfl) (args := [.float .f64 a, .float .f64 b]) (by simp [Try.ntmps69]) w (· = .bool (sameFB a b)) 400 ?_).mono fun e w' ⟨v, h1, h2, h3⟩ => ⟨h2 ▸ h1, h3⟩
  obtain ⟨ha, hb⟩ := hpre
  simp (maxSteps := 4000000) -dsimp [-List.all_eq_true, -Array.all_eq_true, -Bool.exists_bool, -Bool.forall_bool, vcsE1, vcsE2, vcsE3, vcsE4, vcsE5, vcsE6, vcsE7, vcsE8, vcsE9, vcsE10, vcsE11, vcsE12, vcsE13, vcsE14, vcsE15, vcsE16, vcsE17, vcsE18, vcsE19, Sx.get, Sx.look, Sx.put, pureFn, findOrd, unF, dstOk, isFloatT, endVC, resFn, packC, newFn, storeFn, buildFn, undef, known, aggT, cellsC, Value.cells, findCon, Con.pure, Con.some, allV, partsV, partsC, fillL, Sx.exitTo, fAr, C.one, Value.oneCell', eqFn, eqFieldsFn, eqElemsFn, partFn, and_assoc, List.zipIdx, sliceFn, boundFn, AppV, CopyV, MakeSliceV, NewsV, GrowV, TextV, bytesL, notInt, typeAt, argAt, Con.read, Con.make, Con.ext, Con.rel, den, Con.extS, Con.draw, Con.step, Draws.steps, Try.f69, sRealTextC, ha, hb, realL_eq ha hb]
def l5SameC : Con Try.prog := Con.pure 69 Try.call69 (fun (i : ((Nat) × (Nat))) => match i with | (a, b) => [.float .f64 a, .float .f64 b]) (fun (i : ((Nat) × (Nat))) => match i with | (a, b) => a < 18446744073709551616 ∧ b < 18446744073709551616) (fun (i : ((Nat) × (Nat))) => match i with | (a, b) => .bool (sameFB a b)) fun i w hp => l5SameC_c i.1 i.2 hp w
theorem ms_false {x y : M} (h : ¬ MSame x y) : msB x y = false := Bool.eq_false_iff.2 fun e => h (msB_iff.1 e)
theorem sMemSameC_c (x y : M) (hpre : MOk x ∧ MOk y) (w : World) : Calls Try.prog 18 #[.agg (cells x), .agg (cells y)] w fun e w' => e = .returned (.bool (msB x y)) ∧ RowKit.Below w.heap.size w w' := by
  refine (plain_of_vcs ⟨[l5SameC], []⟩ hmx Try.func18 rfl (by kernel_rfl) (args := [.agg (cells x), .agg (cells y)]) (by simp [Try.ntmps18]) w (· = .bool (msB x y)) 600 ?_).mono fun e w' ⟨v, h1, h2, h3⟩ => ⟨h2 ▸ h1, h3⟩
  obtain ⟨hx, hy⟩ := hpre
  simp (maxSteps := 4000000) -dsimp [-List.all_eq_true, -Array.all_eq_true, -Bool.exists_bool, -Bool.forall_bool, vcsE1, vcsE2, vcsE3, vcsE4, vcsE5, vcsE6, vcsE7, vcsE8, vcsE9, vcsE10, vcsE11, vcsE12, vcsE13, vcsE14, vcsE15, vcsE16, vcsE17, vcsE18, vcsE19, Sx.get, Sx.look, Sx.put, pureFn, findOrd, unF, dstOk, isFloatT, endVC, resFn, packC, newFn, storeFn, buildFn, undef, known, aggT, cellsC, Value.cells, findCon, Con.pure, Con.some, allV, partsV, partsC, fillL, Sx.exitTo, fAr, C.one, Value.oneCell', eqFn, eqFieldsFn, eqElemsFn, partFn, and_assoc, List.zipIdx, sliceFn, boundFn, AppV, CopyV, MakeSliceV, NewsV, GrowV, TextV, bytesL, notInt, typeAt, argAt, Con.read, Con.make, Con.ext, Con.rel, den, Con.extS, Con.draw, Con.step, Draws.steps, Try.f18, l5SameC]
  intro b1 b2
  refine loop_inv (σ := ⟨[l5SameC], []⟩) hmx (by kernel_rfl) (fun q cx tm mem => cx = ⟨w, [], w, []⟩ ∧ ∃ (i : Nat), i ≤ 16 ∧ q = 16 - i ∧ (∀ k, k < i → sameFB (x.R k) (y.R k) = true ∧ x.T k = y.T k ∧ x.C k = y.C k) ∧ mem = [⟨b1, cellC x, 43⟩, ⟨b2, cellC y, 43⟩] ∧ Sx.look tm 5 = .v (.int .i64 i) ∧ Sx.look tm 2 = .p 0 b1 0 ∧ Sx.look tm 3 = .p 1 b2 0)
    16 ⟨rfl, 0, by omega, rfl, by omega, rfl, by simp [Sx.look], by simp [Sx.look], by simp [Sx.look]⟩ ?_
  rintro q cx tm mem ⟨rfl, i, hi, rfl, hk, rfl, h5, h2, h3⟩
  refine ⟨600, ?_⟩
  by_cases hlt : i < 16
  · have hlt' : (i : Int) < 16 := by omega
    have g1 := get_R x i hlt
    have g2 := get_R y i hlt
    have f1 := fun h => (List.getElem_eq_iff (h := h)).2 g1
    have f2 := fun h => (List.getElem_eq_iff (h := h)).2 g2
    have t1 := get_TT x i hlt
    have t2 := get_TT y i hlt
    have c1 := get_CC x i hlt
    have c2 := get_CC y i hlt
    have ob : 117 + i < 136 ∧ 5 + i * 2 + 2 ≤ 136 ∧ 37 + i * 3 + 3 ≤ 136 := by omega
    have r1 := hx.R i hlt
    have r2 := hy.R i hlt
    cases hs : sameFB (x.R i) (y.R i)
    · have e : msB x y = false := ms_false fun h => by
        have := sameFB_iff.2 (h.R i hlt); rw [hs] at this; cases this
      simp (maxSteps := 4000000) -dsimp [-List.all_eq_true, -Array.all_eq_true, -Bool.exists_bool, -Bool.forall_bool, vcsE1, vcsE2, vcsE3, vcsE4, vcsE5, vcsE6, vcsE7, vcsE8, vcsE9, vcsE10, vcsE11, vcsE12, vcsE13, vcsE14, vcsE15, vcsE16, vcsE17, vcsE18, vcsE19, Sx.get, Sx.look, Sx.put, pureFn, findOrd, unF, dstOk, isFloatT, endVC, resFn, packC, newFn, storeFn, buildFn, undef, known, aggT, cellsC, Value.cells, findCon, Con.pure, Con.some, allV, partsV, partsC, fillL, Sx.exitTo, fAr, C.one, Value.oneCell', eqFn, eqFieldsFn, eqElemsFn, partFn, and_assoc, List.zipIdx, sliceFn, boundFn, AppV, CopyV, MakeSliceV, NewsV, GrowV, TextV, bytesL, notInt, typeAt, argAt, Con.read, Con.make, Con.ext, Con.rel, den, Con.extS, Con.draw, Con.step, Draws.steps, Try.f18, l5SameC, h5, h2, h3, hlt', g1, g2, f1, f2, ob, hs, e, r1, r2, t1, t2, c1, c2]
    by_cases hT : x.T i = y.T i
    · by_cases hC : x.C i = y.C i
      · have hT1 : (x.T i).1 = (y.T i).1 ∧ (x.T i).2 = (y.T i).2 := by rw [hT]; exact ⟨rfl, rfl⟩
        have hC1 : (x.C i).1 = (y.C i).1 ∧ (x.C i).2.1 = (y.C i).2.1 ∧ (x.C i).2.2 = (y.C i).2.2 := by rw [hC]; exact ⟨rfl, rfl, rfl⟩
        simp (maxSteps := 4000000) -dsimp [-List.all_eq_true, -Array.all_eq_true, -Bool.exists_bool, -Bool.forall_bool, vcsE1, vcsE2, vcsE3, vcsE4, vcsE5, vcsE6, vcsE7, vcsE8, vcsE9, vcsE10, vcsE11, vcsE12, vcsE13, vcsE14, vcsE15, vcsE16, vcsE17, vcsE18, vcsE19, Sx.get, Sx.look, Sx.put, pureFn, findOrd, unF, dstOk, isFloatT, endVC, resFn, packC, newFn, storeFn, buildFn, undef, known, aggT, cellsC, Value.cells, findCon, Con.pure, Con.some, allV, partsV, partsC, fillL, Sx.exitTo, fAr, C.one, Value.oneCell', eqFn, eqFieldsFn, eqElemsFn, partFn, and_assoc, List.zipIdx, sliceFn, boundFn, AppV, CopyV, MakeSliceV, NewsV, GrowV, TextV, bytesL, notInt, typeAt, argAt, Con.read, Con.make, Con.ext, Con.rel, den, Con.extS, Con.draw, Con.step, Draws.steps, Try.f18, l5SameC, h5, h2, h3, hlt', g1, g2, f1, f2, ob, hs, r1, r2, t1, t2, c1, c2, hT1, hC1, i_succ (i := i) (by omega)]
        exact ⟨2, 16 - (i + 1), by omega, i + 1, by omega, rfl, fun k hkk => if h : k = i then by rw [h]; exact ⟨hs, hT, hC⟩ else hk k (by omega), rfl, by omega⟩
      · have e : msB x y = false := ms_false fun h => hC (by rw [h.C])
        simp (maxSteps := 4000000) -dsimp [-List.all_eq_true, -Array.all_eq_true, -Bool.exists_bool, -Bool.forall_bool, vcsE1, vcsE2, vcsE3, vcsE4, vcsE5, vcsE6, vcsE7, vcsE8, vcsE9, vcsE10, vcsE11, vcsE12, vcsE13, vcsE14, vcsE15, vcsE16, vcsE17, vcsE18, vcsE19, Sx.get, Sx.look, Sx.put, pureFn, findOrd, unF, dstOk, isFloatT, endVC, resFn, packC, newFn, storeFn, buildFn, undef, known, aggT, cellsC, Value.cells, findCon, Con.pure, Con.some, allV, partsV, partsC, fillL, Sx.exitTo, fAr, C.one, Value.oneCell', eqFn, eqFieldsFn, eqElemsFn, partFn, and_assoc, List.zipIdx, sliceFn, boundFn, AppV, CopyV, MakeSliceV, NewsV, GrowV, TextV, bytesL, notInt, typeAt, argAt, Con.read, Con.make, Con.ext, Con.rel, den, Con.extS, Con.draw, Con.step, Draws.steps, Try.f18, l5SameC, h5, h2, h3, hlt', g1, g2, f1, f2, ob, hs, r1, r2, t1, t2, c1, c2, e]
        intro a1 a2 a3 a4 a5
        exact absurd (Prod.ext a3 (Prod.ext a4 a5)) hC
    · have e : msB x y = false := ms_false fun h => hT (by rw [h.T])
      simp (maxSteps := 4000000) -dsimp [-List.all_eq_true, -Array.all_eq_true, -Bool.exists_bool, -Bool.forall_bool, vcsE1, vcsE2, vcsE3, vcsE4, vcsE5, vcsE6, vcsE7, vcsE8, vcsE9, vcsE10, vcsE11, vcsE12, vcsE13, vcsE14, vcsE15, vcsE16, vcsE17, vcsE18, vcsE19, Sx.get, Sx.look, Sx.put, pureFn, findOrd, unF, dstOk, isFloatT, endVC, resFn, packC, newFn, storeFn, buildFn, undef, known, aggT, cellsC, Value.cells, findCon, Con.pure, Con.some, allV, partsV, partsC, fillL, Sx.exitTo, fAr, C.one, Value.oneCell', eqFn, eqFieldsFn, eqElemsFn, partFn, and_assoc, List.zipIdx, sliceFn, boundFn, AppV, CopyV, MakeSliceV, NewsV, GrowV, TextV, bytesL, notInt, typeAt, argAt, Con.read, Con.make, Con.ext, Con.rel, den, Con.extS, Con.draw, Con.step, Draws.steps, Try.f18, l5SameC, h5, h2, h3, hlt', g1, g2, f1, f2, ob, hs, r1, r2, t1, t2, c1, c2, e]
      intro a1 a2
      exact absurd (Prod.ext a1 a2) hT
  · have hlt' : ¬ (i : Int) < 16 := by omega
    have hk16 : ∀ k, k < 16 → sameFB (x.R k) (y.R k) = true ∧ x.T k = y.T k ∧ x.C k = y.C k := fun k hkk => hk k (by omega)
    simp (maxSteps := 4000000) -dsimp [-List.all_eq_true, -Array.all_eq_true, -Bool.exists_bool, -Bool.forall_bool, vcsE1, vcsE2, vcsE3, vcsE4, vcsE5, vcsE6, vcsE7, vcsE8, vcsE9, vcsE10, vcsE11, vcsE12, vcsE13, vcsE14, vcsE15, vcsE16, vcsE17, vcsE18, vcsE19, Sx.get, Sx.look, Sx.put, pureFn, findOrd, unF, dstOk, isFloatT, endVC, resFn, packC, newFn, storeFn, buildFn, undef, known, aggT, cellsC, Value.cells, findCon, Con.pure, Con.some, allV, partsV, partsC, fillL, Sx.exitTo, fAr, C.one, Value.oneCell', eqFn, eqFieldsFn, eqElemsFn, partFn, and_assoc, List.zipIdx, sliceFn, boundFn, AppV, CopyV, MakeSliceV, NewsV, GrowV, TextV, bytesL, notInt, typeAt, argAt, Con.read, Con.make, Con.ext, Con.rel, den, Con.extS, Con.draw, Con.step, Draws.steps, Try.f18, l5SameC, h5, h2, h3, hlt']
    refine loop_inv (σ := ⟨[l5SameC], []⟩) hmx (by kernel_rfl) (fun q cx tm mem => cx = ⟨w, [], w, []⟩ ∧ ∃ (i : Nat), i ≤ 32 ∧ q = 32 - i ∧ (∀ k, k < i → x.D k = y.D k) ∧ mem = [⟨b1, cellC x, 43⟩, ⟨b2, cellC y, 43⟩] ∧ Sx.look tm 6 = .v (.int .i64 i) ∧ Sx.look tm 2 = .p 0 b1 0 ∧ Sx.look tm 3 = .p 1 b2 0)
      32 ⟨rfl, 0, by omega, rfl, by omega, rfl, by simp [Sx.look], by first | exact h2 | simp [Sx.look, h2], by first | exact h3 | simp [Sx.look, h3]⟩ ?_
    rintro q cx tm mem ⟨rfl, j, hj, rfl, hD, rfl, h6, j2, j3⟩
    refine ⟨600, ?_⟩
    by_cases hjl : j < 32
    · have hjl' : (j : Int) < 32 := by omega
      have g1 := get_D x j hjl
      have g2 := get_D y j hjl
      have f1 := fun h => (List.getElem_eq_iff (h := h)).2 g1
      have f2 := fun h => (List.getElem_eq_iff (h := h)).2 g2
      have ob : 85 + j < 136 := by omega
      by_cases hd : x.D j = y.D j
      · simp (maxSteps := 4000000) -dsimp [-List.all_eq_true, -Array.all_eq_true, -Bool.exists_bool, -Bool.forall_bool, vcsE1, vcsE2, vcsE3, vcsE4, vcsE5, vcsE6, vcsE7, vcsE8, vcsE9, vcsE10, vcsE11, vcsE12, vcsE13, vcsE14, vcsE15, vcsE16, vcsE17, vcsE18, vcsE19, Sx.get, Sx.look, Sx.put, pureFn, findOrd, unF, dstOk, isFloatT, endVC, resFn, packC, newFn, storeFn, buildFn, undef, known, aggT, cellsC, Value.cells, findCon, Con.pure, Con.some, allV, partsV, partsC, fillL, Sx.exitTo, fAr, C.one, Value.oneCell', eqFn, eqFieldsFn, eqElemsFn, partFn, and_assoc, List.zipIdx, sliceFn, boundFn, AppV, CopyV, MakeSliceV, NewsV, GrowV, TextV, bytesL, notInt, typeAt, argAt, Con.read, Con.make, Con.ext, Con.rel, den, Con.extS, Con.draw, Con.step, Draws.steps, Try.f18, l5SameC, h6, j2, j3, hjl', g1, g2, f1, f2, ob, hd, i_succ (i := j) (by omega)]
        exact ⟨2, 32 - (j + 1), by omega, j + 1, by omega, rfl, fun k hkk => if h : k = j then by rw [h]; exact hd else hD k (by omega), rfl, by omega⟩
      · have e : msB x y = false := ms_false fun h => hd (by rw [h.D])
        simp (maxSteps := 4000000) -dsimp [-List.all_eq_true, -Array.all_eq_true, -Bool.exists_bool, -Bool.forall_bool, vcsE1, vcsE2, vcsE3, vcsE4, vcsE5, vcsE6, vcsE7, vcsE8, vcsE9, vcsE10, vcsE11, vcsE12, vcsE13, vcsE14, vcsE15, vcsE16, vcsE17, vcsE18, vcsE19, Sx.get, Sx.look, Sx.put, pureFn, findOrd, unF, dstOk, isFloatT, endVC, resFn, packC, newFn, storeFn, buildFn, undef, known, aggT, cellsC, Value.cells, findCon, Con.pure, Con.some, allV, partsV, partsC, fillL, Sx.exitTo, fAr, C.one, Value.oneCell', eqFn, eqFieldsFn, eqElemsFn, partFn, and_assoc, List.zipIdx, sliceFn, boundFn, AppV, CopyV, MakeSliceV, NewsV, GrowV, TextV, bytesL, notInt, typeAt, argAt, Con.read, Con.make, Con.ext, Con.rel, den, Con.extS, Con.draw, Con.step, Draws.steps, Try.f18, l5SameC, h6, j2, j3, hjl', g1, g2, f1, f2, ob, hd, e]
    · have hjl' : ¬ (j : Int) < 32 := by omega
      have hT : x.T = y.T := Arr.ext' fun k hkk => (hk16 k hkk).2.1
      have hC : x.C = y.C := Arr.ext' fun k hkk => (hk16 k hkk).2.2
      have hDD : x.D = y.D := Arr.ext' fun k hkk => hD k (by omega)
      have e : msB x y = decide (x.X = y.X ∧ x.Y = y.Y ∧ x.M = y.M ∧ x.S = y.S ∧ x.E = y.E ∧ x.Time = y.Time ∧ x.Ran = y.Ran ∧ x.Fault = y.Fault) := by
        rw [Bool.eq_iff_iff, msB_iff, decide_eq_true_eq]
        exact ⟨fun h => ⟨h.X, h.Y, h.Mw, h.S, h.E, h.Time, h.Ran, h.Fault⟩, fun ⟨a1, a2, a3, a4, a5, a6, a7, a8⟩ => ⟨a1, a2, a3, a4, a5, hT, hC, hDD, fun k hkk => sameFB_iff.1 (hk16 k hkk).1, a6, a7, a8⟩⟩
      rw [e]
      simp (maxSteps := 4000000) -dsimp [-List.all_eq_true, -Array.all_eq_true, -Bool.exists_bool, -Bool.forall_bool, vcsE1, vcsE2, vcsE3, vcsE4, vcsE5, vcsE6, vcsE7, vcsE8, vcsE9, vcsE10, vcsE11, vcsE12, vcsE13, vcsE14, vcsE15, vcsE16, vcsE17, vcsE18, vcsE19, Sx.get, Sx.look, Sx.put, pureFn, findOrd, unF, dstOk, isFloatT, endVC, resFn, packC, newFn, storeFn, buildFn, undef, known, aggT, cellsC, Value.cells, findCon, Con.pure, Con.some, allV, partsV, partsC, fillL, Sx.exitTo, fAr, C.one, Value.oneCell', eqFn, eqFieldsFn, eqElemsFn, partFn, and_assoc, List.zipIdx, sliceFn, boundFn, AppV, CopyV, MakeSliceV, NewsV, GrowV, TextV, bytesL, notInt, typeAt, argAt, Con.read, Con.make, Con.ext, Con.rel, den, Con.extS, Con.draw, Con.step, Draws.steps, Try.f18, l5SameC, h6, j2, j3, hjl']
      have bq : ∀ a b : Bool, (a == b) = decide (a = b) := by decide
      simp +contextual [bq]
def sMemSameC : Con Try.prog := Con.pure 18 Try.call18 (fun (i : ((M) × (M))) => match i with | (x, y) => [.agg (cells x), .agg (cells y)]) (fun (i : ((M) × (M))) => match i with | (x, y) => MOk x ∧ MOk y) (fun (i : ((M) × (M))) => match i with | (x, y) => .bool (msB x y)) fun i w hp => sMemSameC_c i.1 i.2 hp w
end Go.Proofs.Ytmiicjgbhkjocaa
