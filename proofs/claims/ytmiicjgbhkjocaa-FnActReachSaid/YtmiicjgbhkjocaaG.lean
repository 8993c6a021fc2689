/-
  Contracts: bits are put into the memory; real numbers of operands; a scan begins.
-/
import Derived.Test.YtmiicjgbhkjocaaA
set_option linter.unusedVariables false
set_option linter.unusedSimpArgs false
set_option maxRecDepth 100000
set_option maxHeartbeats 4000000
namespace Go.Proofs.Ytmiicjgbhkjocaa
open Go Go.Sx

theorem bitC_c (b : Bool) (w : World) : Calls Try.prog 86 #[.bool b] w fun e w' => e = .returned (.int .u16 (if b then 1 else 0)) ∧ RowKit.Below w.heap.size w w' := by
  refine (plain_of_vcs ⟨[], []⟩ hmx Try.func86 rfl (by kernel_rfl) (args := [.bool b]) (by simp [Try.ntmps86]) w (· = .int .u16 (if b then 1 else 0)) 400 ?_).mono fun e w' ⟨v, h1, h2, h3⟩ => ⟨h2 ▸ h1, h3⟩
  cases b <;> simp (maxSteps := 4000000) -dsimp [-List.all_eq_true, -Array.all_eq_true, -Bool.exists_bool, -Bool.forall_bool, vcsE1, vcsE2, vcsE3, vcsE4, vcsE5, vcsE6, vcsE7, vcsE8, vcsE9, vcsE10, vcsE11, vcsE12, vcsE13, vcsE14, vcsE15, vcsE16, vcsE17, vcsE18, vcsE19, Sx.get, Sx.look, Sx.put, pureFn, findOrd, unF, dstOk, isFloatT, endVC, resFn, packC, newFn, storeFn, buildFn, undef, known, aggT, cellsC, Value.cells, findCon, Con.pure, Con.some, allV, partsV, partsC, fillL, Sx.exitTo, fAr, C.one, Value.oneCell', eqFn, eqFieldsFn, eqElemsFn, partFn, and_assoc, List.zipIdx, sliceFn, boundFn, AppV, CopyV, MakeSliceV, NewsV, GrowV, TextV, bytesL, notInt, typeAt, argAt, Con.read, Con.make, Con.ext, Con.rel, den, Con.extS, Con.draw, Con.step, Draws.steps, Try.f86]
def bitC : Con Try.prog := Con.pure 86 Try.call86 (fun (b : ((Bool))) => [.bool b]) (fun (b : ((Bool))) => True) (fun (b : ((Bool))) => .int .u16 (if b then 1 else 0)) fun b w _ => bitC_c b w
theorem memPutC_c (m : M) (k n p : Int) (b : Bool) (hpre : MOk m) (w : World) : Calls Try.prog 30 #[.agg (cells m), .agg #[.int .i64 k, .int .i64 n, .int .i64 p], .bool b] w fun e w' => e = .returned (.agg (cells (memPut m k n b))) ∧ RowKit.Below w.heap.size w w' := by
  refine (plain_of_vcs ⟨[isDevC, placeC, bitC], []⟩ hmx Try.func30 rfl (by kernel_rfl) (args := [.agg (cells m), .agg #[.int .i64 k, .int .i64 n, .int .i64 p], .bool b]) (by simp [Try.ntmps30]) w (· = .agg (cells (memPut m k n b))) 400 ?_).mono fun e w' ⟨v, h1, h2, h3⟩ => ⟨h2 ▸ h1, h3⟩
  have hb := (place_bd k n).1
  obtain ⟨l1, l2, l3, l4, l5, l6, l7, l8, l9, l10⟩ := place_lt n
  by_cases hk : 1 ≤ k ∧ k ≤ 10
  · obtain rfl | rfl | rfl | rfl | rfl | rfl | rfl | rfl | rfl | rfl : k = 1 ∨ k = 2 ∨ k = 3 ∨ k = 4 ∨ k = 5 ∨ k = 6 ∨ k = 7 ∨ k = 8 ∨ k = 9 ∨ k = 10 := by omega
    all_goals cases b <;> simp (maxSteps := 4000000) -dsimp [-List.all_eq_true, -Array.all_eq_true, -Bool.exists_bool, -Bool.forall_bool, vcsE1, vcsE2, vcsE3, vcsE4, vcsE5, vcsE6, vcsE7, vcsE8, vcsE9, vcsE10, vcsE11, vcsE12, vcsE13, vcsE14, vcsE15, vcsE16, vcsE17, vcsE18, vcsE19, Sx.get, Sx.look, Sx.put, pureFn, findOrd, unF, dstOk, isFloatT, endVC, resFn, packC, newFn, storeFn, buildFn, undef, known, aggT, cellsC, Value.cells, findCon, Con.pure, Con.some, allV, partsV, partsC, fillL, Sx.exitTo, fAr, C.one, Value.oneCell', eqFn, eqFieldsFn, eqElemsFn, partFn, and_assoc, List.zipIdx, sliceFn, boundFn, AppV, CopyV, MakeSliceV, NewsV, GrowV, TextV, bytesL, notInt, typeAt, argAt, Con.read, Con.make, Con.ext, Con.rel, den, Con.extS, Con.draw, Con.step, Draws.steps, Try.f30, isDevC, placeC, bitC, memPut, hpre, hb]
    · exact ⟨by rw [wrap_u64 hb (by omega)]; exact hb, put_k (b := 32) rfl (fun y h1 h2 => wrap_u32 h1 (by omega)) hpre.Y.1 (by have := hpre.Y.2; omega) hb l2 (by omega) (by decide)⟩
    · exact ⟨by rw [wrap_u64 hb (by omega)]; exact hb, put_k (b := 32) rfl (fun y h1 h2 => wrap_u32 h1 (by omega)) hpre.Y.1 (by have := hpre.Y.2; omega) hb l2 (by omega) (by decide)⟩
    · exact ⟨by rw [wrap_u64 hb (by omega)]; exact hb, put_k (b := 64) rfl (fun y h1 h2 => wrap_u64 h1 (by omega)) hpre.Mw.1 (by have := hpre.Mw.2; omega) hb l3 (by omega) (by decide)⟩
    · exact ⟨by rw [wrap_u64 hb (by omega)]; exact hb, put_k (b := 64) rfl (fun y h1 h2 => wrap_u64 h1 (by omega)) hpre.Mw.1 (by have := hpre.Mw.2; omega) hb l3 (by omega) (by decide)⟩
    · exact ⟨by rw [wrap_u64 hb (by omega)]; exact hb, put_k (b := 16) rfl (fun y h1 h2 => wrap_u16 h1 (by omega)) hpre.S.1 (by have := hpre.S.2; omega) hb l4 (by omega) (by decide)⟩
    · exact ⟨by rw [wrap_u64 hb (by omega)]; exact hb, put_k (b := 16) rfl (fun y h1 h2 => wrap_u16 h1 (by omega)) hpre.S.1 (by have := hpre.S.2; omega) hb l4 (by omega) (by decide)⟩
    · exact ⟨by rw [wrap_u64 hb (by omega)]; exact hb, put_k (b := 32) rfl (fun y h1 h2 => wrap_u32 h1 (by omega)) hpre.E.1 (by have := hpre.E.2; omega) hb l5 (by omega) (by decide)⟩
    · exact ⟨by rw [wrap_u64 hb (by omega)]; exact hb, put_k (b := 32) rfl (fun y h1 h2 => wrap_u32 h1 (by omega)) hpre.E.1 (by have := hpre.E.2; omega) hb l5 (by omega) (by decide)⟩
  · have hm : memPut m k n b = m := by unfold memPut; (repeat' rw [if_neg (by omega)])
    simp (maxSteps := 4000000) -dsimp [-List.all_eq_true, -Array.all_eq_true, -Bool.exists_bool, -Bool.forall_bool, vcsE1, vcsE2, vcsE3, vcsE4, vcsE5, vcsE6, vcsE7, vcsE8, vcsE9, vcsE10, vcsE11, vcsE12, vcsE13, vcsE14, vcsE15, vcsE16, vcsE17, vcsE18, vcsE19, Sx.get, Sx.look, Sx.put, pureFn, findOrd, unF, dstOk, isFloatT, endVC, resFn, packC, newFn, storeFn, buildFn, undef, known, aggT, cellsC, Value.cells, findCon, Con.pure, Con.some, allV, partsV, partsC, fillL, Sx.exitTo, fAr, C.one, Value.oneCell', eqFn, eqFieldsFn, eqElemsFn, partFn, and_assoc, List.zipIdx, sliceFn, boundFn, AppV, CopyV, MakeSliceV, NewsV, GrowV, TextV, bytesL, notInt, typeAt, argAt, Con.read, Con.make, Con.ext, Con.rel, den, Con.extS, Con.draw, Con.step, Draws.steps, Try.f30, isDevC, placeC, bitC, hm]
    omega
def memPutC : Con Try.prog := Con.pure 30 Try.call30 (fun (i : ((M) × (Int) × (Int) × (Int) × (Bool))) => match i with | (m, k, n, p, b) => [.agg (cells m), .agg #[.int .i64 k, .int .i64 n, .int .i64 p], .bool b]) (fun (i : ((M) × (Int) × (Int) × (Int) × (Bool))) => match i with | (m, k, n, p, b) => MOk m) (fun (i : ((M) × (Int) × (Int) × (Int) × (Bool))) => match i with | (m, k, n, p, b) => .agg (cells (memPut m k n b))) fun i w hp => memPutC_c i.1 i.2.1 i.2.2.1 i.2.2.2.1 i.2.2.2.2 hp w
theorem l5TurnedC_c (x k : Int) (b : Bool) (hpre : 0 ≤ x ∧ x < 18446744073709551616 ∧ 0 ≤ k ∧ k < 64) (w : World) : Calls Try.prog 163 #[.int .u64 x, .int .i64 k, .bool b] w fun e w' => e = .returned (.int .u64 (putBit x k.toNat b)) ∧ RowKit.Below w.heap.size w w' := by
  refine (plain_of_vcs ⟨[l5BitC], []⟩ hmx Try.func163 rfl (by kernel_rfl) (args := [.int .u64 x, .int .i64 k, .bool b]) (by simp [Try.ntmps163]) w (· = .int .u64 (putBit x k.toNat b)) 400 ?_).mono fun e w' ⟨v, h1, h2, h3⟩ => ⟨h2 ▸ h1, h3⟩
  obtain ⟨hx, hx2, hk, hk2⟩ := hpre
  simp (maxSteps := 4000000) -dsimp [-List.all_eq_true, -Array.all_eq_true, -Bool.exists_bool, -Bool.forall_bool, vcsE1, vcsE2, vcsE3, vcsE4, vcsE5, vcsE6, vcsE7, vcsE8, vcsE9, vcsE10, vcsE11, vcsE12, vcsE13, vcsE14, vcsE15, vcsE16, vcsE17, vcsE18, vcsE19, Sx.get, Sx.look, Sx.put, pureFn, findOrd, unF, dstOk, isFloatT, endVC, resFn, packC, newFn, storeFn, buildFn, undef, known, aggT, cellsC, Value.cells, findCon, Con.pure, Con.some, allV, partsV, partsC, fillL, Sx.exitTo, fAr, C.one, Value.oneCell', eqFn, eqFieldsFn, eqElemsFn, partFn, and_assoc, List.zipIdx, sliceFn, boundFn, AppV, CopyV, MakeSliceV, NewsV, GrowV, TextV, bytesL, notInt, typeAt, argAt, Con.read, Con.make, Con.ext, Con.rel, den, Con.extS, Con.draw, Con.step, Draws.steps, Try.f163, l5BitC, hx, hx2, hk, hk2]
  refine ⟨fun h => by simp [putBit, h], fun h => ?_⟩
  refine loop_inv (σ := ⟨[l5BitC], []⟩) hmx (by kernel_rfl) (fun m cx tm mem => cx = ⟨w, [], w, []⟩ ∧ mem = [] ∧ ∃ i : Nat, i ≤ k.toNat ∧ m = k.toNat - i ∧ Sx.look tm 8 = .v (.int .i64 i) ∧ Sx.look tm 7 = .v (.int .u64 (2 ^ i)) ∧ Sx.look tm 1 = .v (.int .i64 k) ∧ Sx.look tm 0 = .v (.int .u64 x) ∧ Sx.look tm 2 = .v (.bool b))
    k.toNat ⟨rfl, rfl, 0, by simp, rfl, by simp [Sx.look], by simp [Sx.look], by simp [Sx.look], by simp [Sx.look], by simp [Sx.look]⟩ ?_
  rintro m cx tm mem ⟨rfl, rfl, i, hi, rfl, h8, h7, h1, h0, h2⟩
  refine ⟨200, ?_⟩
  have hpow : ∀ i : Nat, i ≤ k.toNat → (0 : Int) ≤ 2 ^ i ∧ (2 : Int) ^ i < 18446744073709551616 := fun i hi => by
    have e1 : (2 : Nat) ^ i ≤ 2 ^ 63 := Nat.pow_le_pow_right (by omega) (by omega)
    have e2 : ((2 : Int) ^ i) = ((2 ^ i : Nat) : Int) := by push_cast; rfl
    rw [e2]
    have h3 : (2 : Nat) ^ i < 18446744073709551616 := Nat.lt_of_le_of_lt e1 (by decide)
    refine ⟨Int.natCast_nonneg _, ?_⟩
    generalize 2 ^ i = A at *
    omega
  have hpb := putBit_bd (x := x) (b := 64) (j := k.toNat) (c := b) hx (by omega) (by omega)
  unfold putBit at hpb
  rw [if_neg h] at hpb
  simp (maxSteps := 4000000) -dsimp [-List.all_eq_true, -Array.all_eq_true, -Bool.exists_bool, -Bool.forall_bool, vcsE1, vcsE2, vcsE3, vcsE4, vcsE5, vcsE6, vcsE7, vcsE8, vcsE9, vcsE10, vcsE11, vcsE12, vcsE13, vcsE14, vcsE15, vcsE16, vcsE17, vcsE18, vcsE19, Sx.get, Sx.look, Sx.put, pureFn, findOrd, unF, dstOk, isFloatT, endVC, resFn, packC, newFn, storeFn, buildFn, undef, known, aggT, cellsC, Value.cells, findCon, Con.pure, Con.some, allV, partsV, partsC, fillL, Sx.exitTo, fAr, C.one, Value.oneCell', eqFn, eqFieldsFn, eqElemsFn, partFn, and_assoc, List.zipIdx, sliceFn, boundFn, AppV, CopyV, MakeSliceV, NewsV, GrowV, TextV, bytesL, notInt, typeAt, argAt, Con.read, Con.make, Con.ext, Con.rel, den, Con.extS, Con.draw, Con.step, Draws.steps, Try.f163, l5BitC, h8, h7, h1, h0, h2]
  refine ⟨fun hlt => ⟨k.toNat - (i + 1), by omega, i + 1, by omega, rfl, ?_, ?_⟩, fun hge => ?_⟩
  · rw [wrap_i64 (by omega) (by omega)]; rfl
  · have := hpow (i + 1) (by omega)
    rw [Int.pow_succ] at this
    rw [wrap_u64 (by omega) (by omega), Int.pow_succ]
  · have : i = k.toNat := by omega
    subst this
    unfold putBit
    rw [if_neg h]
    cases b
    · simp at hpb ⊢
      rw [wrap_u64 (by omega) (by omega)]
    · simp at hpb ⊢
      rw [wrap_u64 (by omega) (by omega)]
def l5TurnedC : Con Try.prog := Con.pure 163 Try.call163 (fun (i : ((Int) × (Int) × (Bool))) => match i with | (x, k, b) => [.int .u64 x, .int .i64 k, .bool b]) (fun (i : ((Int) × (Int) × (Bool))) => match i with | (x, k, b) => 0 ≤ x ∧ x < 18446744073709551616 ∧ 0 ≤ k ∧ k < 64) (fun (i : ((Int) × (Int) × (Bool))) => match i with | (x, k, b) => .int .u64 (putBit x k.toNat b)) fun i w hp => l5TurnedC_c i.1 i.2.1 i.2.2 hp w
theorem sMemPutC_c (m : M) (k n p : Int) (b : Bool) (hpre : MOk m) (w : World) : Calls Try.prog 109 #[.agg (cells m), .agg #[.int .i64 k, .int .i64 n, .int .i64 p], .bool b] w fun e w' => e = .returned (.agg (cells (memPut m k n b))) ∧ RowKit.Below w.heap.size w w' := by
  refine (plain_of_vcs ⟨[l5AtC, l5TurnedC], []⟩ hmx Try.func109 rfl (by kernel_rfl) (args := [.agg (cells m), .agg #[.int .i64 k, .int .i64 n, .int .i64 p], .bool b]) (by simp [Try.ntmps109]) w (· = .agg (cells (memPut m k n b))) 400 ?_).mono fun e w' ⟨v, h1, h2, h3⟩ => ⟨h2 ▸ h1, h3⟩
  have hb := (place_bd k n).1
  obtain ⟨l1, l2, l3, l4, l5, l6, l7, l8, l9, l10⟩ := place_lt n
  have hb64 := (place_bd k n).2.2
  by_cases hk : k = 2 ∨ k = 3 ∨ k = 4 ∨ k = 5
  · obtain rfl | rfl | rfl | rfl := hk
    · have e := putBit_bd (b := 32) (j := (place 2 n).toNat) (c := b) hpre.Y.1 (by have := hpre.Y.2; omega) (by omega)
      have hY := hpre.Y
      simp (maxSteps := 4000000) -dsimp [-List.all_eq_true, -Array.all_eq_true, -Bool.exists_bool, -Bool.forall_bool, vcsE1, vcsE2, vcsE3, vcsE4, vcsE5, vcsE6, vcsE7, vcsE8, vcsE9, vcsE10, vcsE11, vcsE12, vcsE13, vcsE14, vcsE15, vcsE16, vcsE17, vcsE18, vcsE19, Sx.get, Sx.look, Sx.put, pureFn, findOrd, unF, dstOk, isFloatT, endVC, resFn, packC, newFn, storeFn, buildFn, undef, known, aggT, cellsC, Value.cells, findCon, Con.pure, Con.some, allV, partsV, partsC, fillL, Sx.exitTo, fAr, C.one, Value.oneCell', eqFn, eqFieldsFn, eqElemsFn, partFn, and_assoc, List.zipIdx, sliceFn, boundFn, AppV, CopyV, MakeSliceV, NewsV, GrowV, TextV, bytesL, notInt, typeAt, argAt, Con.read, Con.make, Con.ext, Con.rel, den, Con.extS, Con.draw, Con.step, Draws.steps, Try.f109, l5AtC, l5TurnedC, memPut, hpre, hb, hb64, wrap_u64 hY.1 (by omega)]
      rw [wrap_u32 e.1 (by omega)]; omega
    · have hY := hpre.Mw
      simp (maxSteps := 4000000) -dsimp [-List.all_eq_true, -Array.all_eq_true, -Bool.exists_bool, -Bool.forall_bool, vcsE1, vcsE2, vcsE3, vcsE4, vcsE5, vcsE6, vcsE7, vcsE8, vcsE9, vcsE10, vcsE11, vcsE12, vcsE13, vcsE14, vcsE15, vcsE16, vcsE17, vcsE18, vcsE19, Sx.get, Sx.look, Sx.put, pureFn, findOrd, unF, dstOk, isFloatT, endVC, resFn, packC, newFn, storeFn, buildFn, undef, known, aggT, cellsC, Value.cells, findCon, Con.pure, Con.some, allV, partsV, partsC, fillL, Sx.exitTo, fAr, C.one, Value.oneCell', eqFn, eqFieldsFn, eqElemsFn, partFn, and_assoc, List.zipIdx, sliceFn, boundFn, AppV, CopyV, MakeSliceV, NewsV, GrowV, TextV, bytesL, notInt, typeAt, argAt, Con.read, Con.make, Con.ext, Con.rel, den, Con.extS, Con.draw, Con.step, Draws.steps, Try.f109, l5AtC, l5TurnedC, memPut, hpre, hb, hb64]
      omega
    · have e := putBit_bd (b := 16) (j := (place 4 n).toNat) (c := b) hpre.S.1 (by have := hpre.S.2; omega) (by omega)
      have hY := hpre.S
      simp (maxSteps := 4000000) -dsimp [-List.all_eq_true, -Array.all_eq_true, -Bool.exists_bool, -Bool.forall_bool, vcsE1, vcsE2, vcsE3, vcsE4, vcsE5, vcsE6, vcsE7, vcsE8, vcsE9, vcsE10, vcsE11, vcsE12, vcsE13, vcsE14, vcsE15, vcsE16, vcsE17, vcsE18, vcsE19, Sx.get, Sx.look, Sx.put, pureFn, findOrd, unF, dstOk, isFloatT, endVC, resFn, packC, newFn, storeFn, buildFn, undef, known, aggT, cellsC, Value.cells, findCon, Con.pure, Con.some, allV, partsV, partsC, fillL, Sx.exitTo, fAr, C.one, Value.oneCell', eqFn, eqFieldsFn, eqElemsFn, partFn, and_assoc, List.zipIdx, sliceFn, boundFn, AppV, CopyV, MakeSliceV, NewsV, GrowV, TextV, bytesL, notInt, typeAt, argAt, Con.read, Con.make, Con.ext, Con.rel, den, Con.extS, Con.draw, Con.step, Draws.steps, Try.f109, l5AtC, l5TurnedC, memPut, hpre, hb, hb64, wrap_u64 hY.1 (by omega)]
      rw [wrap_u16 e.1 (by omega)]; omega
    · have e := putBit_bd (b := 32) (j := (place 5 n).toNat) (c := b) hpre.E.1 (by have := hpre.E.2; omega) (by omega)
      have hY := hpre.E
      simp (maxSteps := 4000000) -dsimp [-List.all_eq_true, -Array.all_eq_true, -Bool.exists_bool, -Bool.forall_bool, vcsE1, vcsE2, vcsE3, vcsE4, vcsE5, vcsE6, vcsE7, vcsE8, vcsE9, vcsE10, vcsE11, vcsE12, vcsE13, vcsE14, vcsE15, vcsE16, vcsE17, vcsE18, vcsE19, Sx.get, Sx.look, Sx.put, pureFn, findOrd, unF, dstOk, isFloatT, endVC, resFn, packC, newFn, storeFn, buildFn, undef, known, aggT, cellsC, Value.cells, findCon, Con.pure, Con.some, allV, partsV, partsC, fillL, Sx.exitTo, fAr, C.one, Value.oneCell', eqFn, eqFieldsFn, eqElemsFn, partFn, and_assoc, List.zipIdx, sliceFn, boundFn, AppV, CopyV, MakeSliceV, NewsV, GrowV, TextV, bytesL, notInt, typeAt, argAt, Con.read, Con.make, Con.ext, Con.rel, den, Con.extS, Con.draw, Con.step, Draws.steps, Try.f109, l5AtC, l5TurnedC, memPut, hpre, hb, hb64, wrap_u64 hY.1 (by omega)]
      rw [wrap_u32 e.1 (by omega)]; omega
  · have hm : memPut m k n b = m := by unfold memPut; (repeat' rw [if_neg (by omega)])
    simp (maxSteps := 4000000) -dsimp [-List.all_eq_true, -Array.all_eq_true, -Bool.exists_bool, -Bool.forall_bool, vcsE1, vcsE2, vcsE3, vcsE4, vcsE5, vcsE6, vcsE7, vcsE8, vcsE9, vcsE10, vcsE11, vcsE12, vcsE13, vcsE14, vcsE15, vcsE16, vcsE17, vcsE18, vcsE19, Sx.get, Sx.look, Sx.put, pureFn, findOrd, unF, dstOk, isFloatT, endVC, resFn, packC, newFn, storeFn, buildFn, undef, known, aggT, cellsC, Value.cells, findCon, Con.pure, Con.some, allV, partsV, partsC, fillL, Sx.exitTo, fAr, C.one, Value.oneCell', eqFn, eqFieldsFn, eqElemsFn, partFn, and_assoc, List.zipIdx, sliceFn, boundFn, AppV, CopyV, MakeSliceV, NewsV, GrowV, TextV, bytesL, notInt, typeAt, argAt, Con.read, Con.make, Con.ext, Con.rel, den, Con.extS, Con.draw, Con.step, Draws.steps, Try.f109, l5AtC, l5TurnedC, hm]
    omega
def sMemPutC : Con Try.prog := Con.pure 109 Try.call109 (fun (i : ((M) × (Int) × (Int) × (Int) × (Bool))) => match i with | (m, k, n, p, b) => [.agg (cells m), .agg #[.int .i64 k, .int .i64 n, .int .i64 p], .bool b]) (fun (i : ((M) × (Int) × (Int) × (Int) × (Bool))) => match i with | (m, k, n, p, b) => MOk m) (fun (i : ((M) × (Int) × (Int) × (Int) × (Bool))) => match i with | (m, k, n, p, b) => .agg (cells (memPut m k n b))) fun i w hp => sMemPutC_c i.1 i.2.1 i.2.2.1 i.2.2.2.1 i.2.2.2.2 hp w
end Go.Proofs.Ytmiicjgbhkjocaa
