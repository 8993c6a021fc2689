/-
  Contracts: packed stacks, by the program.
-/
import Derived.Test.YtmiicjgbhkjocaaGreatG
import Derived.Test.YtmiicjgbhkjocaaGreatMc
set_option linter.unusedVariables false
set_option linter.unusedSimpArgs false
set_option maxRecDepth 100000
set_option maxHeartbeats 4000000
namespace Go.Proofs.YtmiicjgbhkjocaaGreat
open Go Go.Sx

theorem shr_zero {b : Int} {k : Nat} (h : 0 ≤ b) : (b.fdiv (2 ^ k) == 0) = decide (b < 2 ^ k) := by
  have hp := pow_pos2 k
  rw [Int.fdiv_eq_ediv_of_nonneg _ (by omega), Bool.eq_iff_iff]
  simp only [beq_iff_eq, decide_eq_true_eq]
  constructor
  · intro h0
    by_cases hb : b < 2 ^ k
    · exact hb
    · have := (Int.le_ediv_iff_mul_le hp (a := 1) (b := b)).2 (by omega)
      omega
  · exact fun hb => Int.ediv_eq_zero_of_lt h hb
theorem even_or {z : Int} (h : 0 ≤ z ∧ z < 65536) (he : z % 2 = 0) : (((z % 65536).toNat ||| 1 : Nat) : Int) = z + 1 := by
  have hz : z % 65536 = z := Int.emod_eq_of_lt h.1 h.2
  rw [hz]
  obtain ⟨a, ha⟩ : ∃ a : Nat, z = 2 * a := ⟨(z / 2).toNat, by omega⟩
  have e : z.toNat = 2 ^ 1 * a := by omega
  rw [e, ← Nat.two_pow_add_eq_or_of_lt (by decide : 1 < 2 ^ 1)]
  push_cast
  omega
theorem shl_u16 {y : Int} : IntKind.u16.wrap (y * 2 ^ min 1 IntKind.u16.bits) = (2 * y) % 65536 := by
  have e : min 1 IntKind.u16.bits = 1 := rfl
  rw [e]
  simp only [IntKind.wrap, IntKind.signed, IntKind.bits]
  simp
  omega
theorem push_u0 {y : Int} (h : 0 ≤ y) : IntKind.u16.wrap (max (IntKind.u16.wrap (y * 2 ^ min 1 IntKind.u16.bits) % 2 ^ IntKind.u16.bits) 0) = (2 * y + b2i false) % 65536 := by
  rw [shl_u16]
  have e : (2 : Int) ^ IntKind.u16.bits = 65536 := rfl
  have eb : b2i false = 0 := rfl
  rw [e, eb]
  rw [wrap_u16 (by omega) (by omega)]
  omega
theorem push_u1 {y : Int} (h : 0 ≤ y) : IntKind.u16.wrap (((IntKind.u16.wrap (y * 2 ^ min 1 IntKind.u16.bits) % 2 ^ IntKind.u16.bits).toNat ||| ((1 : Int) % 2 ^ IntKind.u16.bits).toNat : Nat) : Int) = (2 * y + b2i true) % 65536 := by
  rw [shl_u16]
  have e : (2 : Int) ^ IntKind.u16.bits = 65536 := rfl
  have eb : b2i true = 1 := rfl
  have e1 : ((1 : Int) % 65536).toNat = 1 := rfl
  rw [e, eb, e1, even_or (by omega) (by omega), wrap_u16 (by omega) (by omega)]
  omega
theorem pop_u {y : Int} (h : 0 ≤ y) : y.fdiv (2 ^ min 1 IntKind.u16.bits) = y / 2 := by
  have e : min 1 IntKind.u16.bits = 1 := rfl
  rw [e, Int.fdiv_eq_ediv_of_nonneg _ (by decide)]
  rfl
theorem top_u {y : Int} (h : 0 ≤ y ∧ y < 65536) : (IntKind.u16.wrap (((y % 2 ^ IntKind.u16.bits).toNat &&& 1 % 2 ^ IntKind.u16.bits : Nat) : Int) == 1) = decide (y % 2 = 1) := by
  have e : (2 : Int) ^ IntKind.u16.bits = 65536 := rfl
  have e2 : 1 % 2 ^ IntKind.u16.bits = 1 := rfl
  rw [e, e2, Nat.and_one_is_mod, Int.emod_eq_of_lt h.1 h.2, wrap_u16 (by omega) (by omega), Bool.eq_iff_iff]
  simp only [beq_iff_eq, decide_eq_true_eq]
  omega
theorem even_or8 {z : Int} (h : 0 ≤ z ∧ z < 256) (he : z % 2 = 0) : (((z % 256).toNat ||| 1 : Nat) : Int) = z + 1 := by
  have hz : z % 256 = z := Int.emod_eq_of_lt h.1 h.2
  rw [hz]
  obtain ⟨a, ha⟩ : ∃ a : Nat, z = 2 * a := ⟨(z / 2).toNat, by omega⟩
  have e : z.toNat = 2 ^ 1 * a := by omega
  rw [e, ← Nat.two_pow_add_eq_or_of_lt (by decide : 1 < 2 ^ 1)]
  push_cast
  omega
theorem shl_u8 {y : Int} : IntKind.u8.wrap (y * 2 ^ min 1 IntKind.u8.bits) = (2 * y) % 256 := by
  have e : min 1 IntKind.u8.bits = 1 := rfl
  rw [e]
  simp only [IntKind.wrap, IntKind.signed, IntKind.bits]
  simp
  omega
theorem push_u80 {y : Int} (h : 0 ≤ y) : IntKind.u8.wrap (max (IntKind.u8.wrap (y * 2 ^ min 1 IntKind.u8.bits) % 2 ^ IntKind.u8.bits) 0) = (2 * y + b2i false) % 256 := by
  rw [shl_u8]
  have e : (2 : Int) ^ IntKind.u8.bits = 256 := rfl
  have eb : b2i false = 0 := rfl
  rw [e, eb]
  rw [wrap_u8 (by omega) (by omega)]
  omega
theorem push_u81 {y : Int} (h : 0 ≤ y) : IntKind.u8.wrap (((IntKind.u8.wrap (y * 2 ^ min 1 IntKind.u8.bits) % 2 ^ IntKind.u8.bits).toNat ||| ((1 : Int) % 2 ^ IntKind.u8.bits).toNat : Nat) : Int) = (2 * y + b2i true) % 256 := by
  rw [shl_u8]
  have e : (2 : Int) ^ IntKind.u8.bits = 256 := rfl
  have eb : b2i true = 1 := rfl
  have e1 : ((1 : Int) % 256).toNat = 1 := rfl
  rw [e, eb, e1, even_or8 (by omega) (by omega), wrap_u8 (by omega) (by omega)]
  omega
theorem pop_u8 {y : Int} (h : 0 ≤ y) : y.fdiv (2 ^ min 1 IntKind.u8.bits) = y / 2 := by
  have e : min 1 IntKind.u8.bits = 1 := rfl
  rw [e, Int.fdiv_eq_ediv_of_nonneg _ (by decide)]
  rfl
theorem top_u8 {y : Int} (h : 0 ≤ y ∧ y < 256) : (IntKind.u8.wrap (((y % 2 ^ IntKind.u8.bits).toNat &&& 1 % 2 ^ IntKind.u8.bits : Nat) : Int) == 1) = decide (y % 2 = 1) := by
  have e : (2 : Int) ^ IntKind.u8.bits = 256 := rfl
  have e2 : 1 % 2 ^ IntKind.u8.bits = 1 := rfl
  rw [e, e2, Nat.and_one_is_mod, Int.emod_eq_of_lt h.1 h.2, wrap_u8 (by omega) (by omega), Bool.eq_iff_iff]
  simp only [beq_iff_eq, decide_eq_true_eq]
  omega
theorem and_u1 {y : Int} (h : 0 ≤ y ∧ y < 65536) : IntKind.u16.wrap (((y % 2 ^ IntKind.u16.bits).toNat &&& 2 ^ IntKind.u16.bits - 1 - 1 % 2 ^ IntKind.u16.bits : Nat) : Int) = 2 * (y / 2) := by
  have e : (2 : Int) ^ IntKind.u16.bits = 65536 := rfl
  have e2 : 2 ^ IntKind.u16.bits - 1 - 1 % 2 ^ IntKind.u16.bits = 2 ^ 16 - 1 - 2 ^ 0 := rfl
  have hn := nat_put y.toNat 16 0 0 (by omega) (by decide) (by decide)
  simp only [Nat.zero_mul, Nat.or_zero, Nat.pow_zero, Nat.div_one, Nat.mul_one, Nat.add_zero] at hn
  rw [e, e2, Int.emod_eq_of_lt h.1 h.2, Nat.pow_zero, hn, wrap_u16 (by omega) (by omega)]
  omega
theorem turn_u0 {y : Int} (h : 0 ≤ y ∧ y < 65536) : IntKind.u16.wrap (max (IntKind.u16.wrap (((y % 2 ^ IntKind.u16.bits).toNat &&& 2 ^ IntKind.u16.bits - 1 - 1 % 2 ^ IntKind.u16.bits : Nat) : Int) % 2 ^ IntKind.u16.bits) 0) = 2 * (y / 2) + b2i false := by
  have e : (2 : Int) ^ IntKind.u16.bits = 65536 := rfl
  have eb : b2i false = 0 := rfl
  rw [and_u1 h, e, eb, wrap_u16 (by omega) (by omega)]
  omega
theorem turn_u1 {y : Int} (h : 0 ≤ y ∧ y < 65536) : IntKind.u16.wrap (((IntKind.u16.wrap (((y % 2 ^ IntKind.u16.bits).toNat &&& 2 ^ IntKind.u16.bits - 1 - 1 % 2 ^ IntKind.u16.bits : Nat) : Int) % 2 ^ IntKind.u16.bits).toNat ||| ((1 : Int) % 2 ^ IntKind.u16.bits).toNat : Nat) : Int) = 2 * (y / 2) + b2i true := by
  have e : (2 : Int) ^ IntKind.u16.bits = 65536 := rfl
  have eb : b2i true = 1 := rfl
  have e1 : ((1 : Int) % 65536).toNat = 1 := rfl
  rw [and_u1 h, e, eb, e1, even_or (by omega) (by omega), wrap_u16 (by omega) (by omega)]
theorem min_if (k m : Int) : (if m < k then m else k) = min k m := by omega
theorem bitOkC_c (b n : Int) (hpre : 0 ≤ b ∧ b < 65536) (w : World) : Calls Tryz.prog 22 #[.agg #[.int .u16 b, .int .i64 n]] w fun e w' => e = .returned (.bool (okS 16 b n)) ∧ RowKit.Below w.heap.size w w' := by
  refine (plain_of_vcs ⟨[withinC], []⟩ hmx Tryz.func22 rfl (by kernel_rfl) (args := [.agg #[.int .u16 b, .int .i64 n]]) (by simp [Tryz.ntmps22]) w (· = .bool (okS 16 b n)) 400 ?_).mono fun e w' ⟨v, h1, h2, h3⟩ => ⟨h2 ▸ h1, h3⟩
  obtain ⟨hb, hb2⟩ := hpre
  by_cases h : 0 ≤ n ∧ n ≤ 16
  · have e1 : IntKind.u32.wrap b = b := wrap_u32 hb (by omega)
    have e2 : IntKind.u64.wrap n = n := wrap_u64 h.1 (by omega)
    have e3 : min n.toNat IntKind.u32.bits = n.toNat := by
      have : IntKind.u32.bits = 32 := rfl
      omega
    have e4 : okS 16 b n = decide (b < 2 ^ n.toNat) := by
      unfold okS
      congr 1
      apply propext
      exact ⟨fun h => h.2.2, fun h' => ⟨h.1, by simpa using h.2, h'⟩⟩
    simp (maxSteps := 4000000) -dsimp [-List.all_eq_true, -Array.all_eq_true, -Bool.exists_bool, -Bool.forall_bool, vcsE1, vcsE2, vcsE3, vcsE4, vcsE5, vcsE6, vcsE7, vcsE8, vcsE9, vcsE10, vcsE11, vcsE12, vcsE13, vcsE14, vcsE15, vcsE16, vcsE17, vcsE18, vcsE19, Sx.get, Sx.look, Sx.put, pureFn, findOrd, unF, dstOk, isFloatT, endVC, resFn, packC, newFn, storeFn, buildFn, undef, known, aggT, cellsC, Value.cells, findCon, Con.pure, Con.some, allV, partsV, partsC, fillL, Sx.exitTo, fAr, C.one, Value.oneCell', eqFn, eqFieldsFn, eqElemsFn, partFn, and_assoc, List.zipIdx, sliceFn, boundFn, AppV, CopyV, MakeSliceV, NewsV, GrowV, TextV, bytesL, notInt, typeAt, argAt, Con.read, Con.make, Con.ext, Con.rel, den, Con.extS, Con.draw, Con.step, Draws.steps, Tryz.f22, withinC, h.1, h.2, e1, e2, e3, e4, shr_zero hb]
    intro _; omega
  · have e4 : okS 16 b n = false := by
      cases e : okS 16 b n
      · rfl
      · have := okS_iff.1 e; exact absurd ⟨this.1, by simpa using this.2.1⟩ h
    by_cases h0 : 0 ≤ n
    · have h1 : ¬ n ≤ 16 := fun h' => h ⟨h0, h'⟩
      simp (maxSteps := 4000000) -dsimp [-List.all_eq_true, -Array.all_eq_true, -Bool.exists_bool, -Bool.forall_bool, vcsE1, vcsE2, vcsE3, vcsE4, vcsE5, vcsE6, vcsE7, vcsE8, vcsE9, vcsE10, vcsE11, vcsE12, vcsE13, vcsE14, vcsE15, vcsE16, vcsE17, vcsE18, vcsE19, Sx.get, Sx.look, Sx.put, pureFn, findOrd, unF, dstOk, isFloatT, endVC, resFn, packC, newFn, storeFn, buildFn, undef, known, aggT, cellsC, Value.cells, findCon, Con.pure, Con.some, allV, partsV, partsC, fillL, Sx.exitTo, fAr, C.one, Value.oneCell', eqFn, eqFieldsFn, eqElemsFn, partFn, and_assoc, List.zipIdx, sliceFn, boundFn, AppV, CopyV, MakeSliceV, NewsV, GrowV, TextV, bytesL, notInt, typeAt, argAt, Con.read, Con.make, Con.ext, Con.rel, den, Con.extS, Con.draw, Con.step, Draws.steps, Tryz.f22, withinC, h0, h1, e4]
    · simp (maxSteps := 4000000) -dsimp [-List.all_eq_true, -Array.all_eq_true, -Bool.exists_bool, -Bool.forall_bool, vcsE1, vcsE2, vcsE3, vcsE4, vcsE5, vcsE6, vcsE7, vcsE8, vcsE9, vcsE10, vcsE11, vcsE12, vcsE13, vcsE14, vcsE15, vcsE16, vcsE17, vcsE18, vcsE19, Sx.get, Sx.look, Sx.put, pureFn, findOrd, unF, dstOk, isFloatT, endVC, resFn, packC, newFn, storeFn, buildFn, undef, known, aggT, cellsC, Value.cells, findCon, Con.pure, Con.some, allV, partsV, partsC, fillL, Sx.exitTo, fAr, C.one, Value.oneCell', eqFn, eqFieldsFn, eqElemsFn, partFn, and_assoc, List.zipIdx, sliceFn, boundFn, AppV, CopyV, MakeSliceV, NewsV, GrowV, TextV, bytesL, notInt, typeAt, argAt, Con.read, Con.make, Con.ext, Con.rel, den, Con.extS, Con.draw, Con.step, Draws.steps, Tryz.f22, withinC, h0, e4]
def bitOkC : Con Tryz.prog := Con.pure 22 Tryz.call22 (fun (i : ((Int) × (Int))) => match i with | (b, n) => [.agg #[.int .u16 b, .int .i64 n]]) (fun (i : ((Int) × (Int))) => match i with | (b, n) => 0 ≤ b ∧ b < 65536) (fun (i : ((Int) × (Int))) => match i with | (b, n) => .bool (okS 16 b n)) fun i w hp => bitOkC_c i.1 i.2 hp w
theorem forkOkC_c (b n : Int) (hpre : 0 ≤ b ∧ b < 256) (w : World) : Calls Tryz.prog 23 #[.agg #[.int .u8 b, .int .i64 n]] w fun e w' => e = .returned (.bool (okS 8 b n)) ∧ RowKit.Below w.heap.size w w' := by
  refine (plain_of_vcs ⟨[withinC], []⟩ hmx Tryz.func23 rfl (by kernel_rfl) (args := [.agg #[.int .u8 b, .int .i64 n]]) (by simp [Tryz.ntmps23]) w (· = .bool (okS 8 b n)) 400 ?_).mono fun e w' ⟨v, h1, h2, h3⟩ => ⟨h2 ▸ h1, h3⟩
  obtain ⟨hb, hb2⟩ := hpre
  by_cases h : 0 ≤ n ∧ n ≤ 8
  · have e1 : IntKind.u32.wrap b = b := wrap_u32 hb (by omega)
    have e2 : IntKind.u64.wrap n = n := wrap_u64 h.1 (by omega)
    have e3 : min n.toNat IntKind.u32.bits = n.toNat := by
      have : IntKind.u32.bits = 32 := rfl
      omega
    have e4 : okS 8 b n = decide (b < 2 ^ n.toNat) := by
      unfold okS
      congr 1
      apply propext
      exact ⟨fun h => h.2.2, fun h' => ⟨h.1, by simpa using h.2, h'⟩⟩
    simp (maxSteps := 4000000) -dsimp [-List.all_eq_true, -Array.all_eq_true, -Bool.exists_bool, -Bool.forall_bool, vcsE1, vcsE2, vcsE3, vcsE4, vcsE5, vcsE6, vcsE7, vcsE8, vcsE9, vcsE10, vcsE11, vcsE12, vcsE13, vcsE14, vcsE15, vcsE16, vcsE17, vcsE18, vcsE19, Sx.get, Sx.look, Sx.put, pureFn, findOrd, unF, dstOk, isFloatT, endVC, resFn, packC, newFn, storeFn, buildFn, undef, known, aggT, cellsC, Value.cells, findCon, Con.pure, Con.some, allV, partsV, partsC, fillL, Sx.exitTo, fAr, C.one, Value.oneCell', eqFn, eqFieldsFn, eqElemsFn, partFn, and_assoc, List.zipIdx, sliceFn, boundFn, AppV, CopyV, MakeSliceV, NewsV, GrowV, TextV, bytesL, notInt, typeAt, argAt, Con.read, Con.make, Con.ext, Con.rel, den, Con.extS, Con.draw, Con.step, Draws.steps, Tryz.f23, withinC, h.1, h.2, e1, e2, e3, e4, shr_zero hb]
    intro _; omega
  · have e4 : okS 8 b n = false := by
      cases e : okS 8 b n
      · rfl
      · have := okS_iff.1 e; exact absurd ⟨this.1, by simpa using this.2.1⟩ h
    by_cases h0 : 0 ≤ n
    · have h1 : ¬ n ≤ 8 := fun h' => h ⟨h0, h'⟩
      simp (maxSteps := 4000000) -dsimp [-List.all_eq_true, -Array.all_eq_true, -Bool.exists_bool, -Bool.forall_bool, vcsE1, vcsE2, vcsE3, vcsE4, vcsE5, vcsE6, vcsE7, vcsE8, vcsE9, vcsE10, vcsE11, vcsE12, vcsE13, vcsE14, vcsE15, vcsE16, vcsE17, vcsE18, vcsE19, Sx.get, Sx.look, Sx.put, pureFn, findOrd, unF, dstOk, isFloatT, endVC, resFn, packC, newFn, storeFn, buildFn, undef, known, aggT, cellsC, Value.cells, findCon, Con.pure, Con.some, allV, partsV, partsC, fillL, Sx.exitTo, fAr, C.one, Value.oneCell', eqFn, eqFieldsFn, eqElemsFn, partFn, and_assoc, List.zipIdx, sliceFn, boundFn, AppV, CopyV, MakeSliceV, NewsV, GrowV, TextV, bytesL, notInt, typeAt, argAt, Con.read, Con.make, Con.ext, Con.rel, den, Con.extS, Con.draw, Con.step, Draws.steps, Tryz.f23, withinC, h0, h1, e4]
    · simp (maxSteps := 4000000) -dsimp [-List.all_eq_true, -Array.all_eq_true, -Bool.exists_bool, -Bool.forall_bool, vcsE1, vcsE2, vcsE3, vcsE4, vcsE5, vcsE6, vcsE7, vcsE8, vcsE9, vcsE10, vcsE11, vcsE12, vcsE13, vcsE14, vcsE15, vcsE16, vcsE17, vcsE18, vcsE19, Sx.get, Sx.look, Sx.put, pureFn, findOrd, unF, dstOk, isFloatT, endVC, resFn, packC, newFn, storeFn, buildFn, undef, known, aggT, cellsC, Value.cells, findCon, Con.pure, Con.some, allV, partsV, partsC, fillL, Sx.exitTo, fAr, C.one, Value.oneCell', eqFn, eqFieldsFn, eqElemsFn, partFn, and_assoc, List.zipIdx, sliceFn, boundFn, AppV, CopyV, MakeSliceV, NewsV, GrowV, TextV, bytesL, notInt, typeAt, argAt, Con.read, Con.make, Con.ext, Con.rel, den, Con.extS, Con.draw, Con.step, Draws.steps, Tryz.f23, withinC, h0, e4]
def forkOkC : Con Tryz.prog := Con.pure 23 Tryz.call23 (fun (i : ((Int) × (Int))) => match i with | (b, n) => [.agg #[.int .u8 b, .int .i64 n]]) (fun (i : ((Int) × (Int))) => match i with | (b, n) => 0 ≤ b ∧ b < 256) (fun (i : ((Int) × (Int))) => match i with | (b, n) => .bool (okS 8 b n)) fun i w hp => forkOkC_c i.1 i.2 hp w
theorem goodC_c (b n : Int) (hpre : 0 ≤ b ∧ b < 65536) (w : World) : Calls Tryz.prog 135 #[.agg #[.int .u16 b, .int .i64 n]] w fun e w' => e = .returned (.agg #[.int .u16 (goodS 16 b n).1, .int .i64 (goodS 16 b n).2]) ∧ RowKit.Below w.heap.size w w' := by
  refine (plain_of_vcs ⟨[bitOkC], []⟩ hmx Tryz.func135 rfl (by kernel_rfl) (args := [.agg #[.int .u16 b, .int .i64 n]]) (by simp [Tryz.ntmps135]) w (· = .agg #[.int .u16 (goodS 16 b n).1, .int .i64 (goodS 16 b n).2]) 400 ?_).mono fun e w' ⟨v, h1, h2, h3⟩ => ⟨h2 ▸ h1, h3⟩
  cases h : okS 16 b n
  · simp (maxSteps := 4000000) -dsimp [-List.all_eq_true, -Array.all_eq_true, -Bool.exists_bool, -Bool.forall_bool, vcsE1, vcsE2, vcsE3, vcsE4, vcsE5, vcsE6, vcsE7, vcsE8, vcsE9, vcsE10, vcsE11, vcsE12, vcsE13, vcsE14, vcsE15, vcsE16, vcsE17, vcsE18, vcsE19, Sx.get, Sx.look, Sx.put, pureFn, findOrd, unF, dstOk, isFloatT, endVC, resFn, packC, newFn, storeFn, buildFn, undef, known, aggT, cellsC, Value.cells, findCon, Con.pure, Con.some, allV, partsV, partsC, fillL, Sx.exitTo, fAr, C.one, Value.oneCell', eqFn, eqFieldsFn, eqElemsFn, partFn, and_assoc, List.zipIdx, sliceFn, boundFn, AppV, CopyV, MakeSliceV, NewsV, GrowV, TextV, bytesL, notInt, typeAt, argAt, Con.read, Con.make, Con.ext, Con.rel, den, Con.extS, Con.draw, Con.step, Draws.steps, Tryz.f135, bitOkC, h, goodS, hpre]
  · simp (maxSteps := 4000000) -dsimp [-List.all_eq_true, -Array.all_eq_true, -Bool.exists_bool, -Bool.forall_bool, vcsE1, vcsE2, vcsE3, vcsE4, vcsE5, vcsE6, vcsE7, vcsE8, vcsE9, vcsE10, vcsE11, vcsE12, vcsE13, vcsE14, vcsE15, vcsE16, vcsE17, vcsE18, vcsE19, Sx.get, Sx.look, Sx.put, pureFn, findOrd, unF, dstOk, isFloatT, endVC, resFn, packC, newFn, storeFn, buildFn, undef, known, aggT, cellsC, Value.cells, findCon, Con.pure, Con.some, allV, partsV, partsC, fillL, Sx.exitTo, fAr, C.one, Value.oneCell', eqFn, eqFieldsFn, eqElemsFn, partFn, and_assoc, List.zipIdx, sliceFn, boundFn, AppV, CopyV, MakeSliceV, NewsV, GrowV, TextV, bytesL, notInt, typeAt, argAt, Con.read, Con.make, Con.ext, Con.rel, den, Con.extS, Con.draw, Con.step, Draws.steps, Tryz.f135, bitOkC, h, goodS, hpre]
def goodC : Con Tryz.prog := Con.pure 135 Tryz.call135 (fun (i : ((Int) × (Int))) => match i with | (b, n) => [.agg #[.int .u16 b, .int .i64 n]]) (fun (i : ((Int) × (Int))) => match i with | (b, n) => 0 ≤ b ∧ b < 65536) (fun (i : ((Int) × (Int))) => match i with | (b, n) => .agg #[.int .u16 (goodS 16 b n).1, .int .i64 (goodS 16 b n).2]) fun i w hp => goodC_c i.1 i.2 hp w
theorem goodFC_c (b n : Int) (hpre : 0 ≤ b ∧ b < 256) (w : World) : Calls Tryz.prog 137 #[.agg #[.int .u8 b, .int .i64 n]] w fun e w' => e = .returned (.agg #[.int .u8 (goodS 8 b n).1, .int .i64 (goodS 8 b n).2]) ∧ RowKit.Below w.heap.size w w' := by
  refine (plain_of_vcs ⟨[forkOkC], []⟩ hmx Tryz.func137 rfl (by kernel_rfl) (args := [.agg #[.int .u8 b, .int .i64 n]]) (by simp [Tryz.ntmps137]) w (· = .agg #[.int .u8 (goodS 8 b n).1, .int .i64 (goodS 8 b n).2]) 400 ?_).mono fun e w' ⟨v, h1, h2, h3⟩ => ⟨h2 ▸ h1, h3⟩
  cases h : okS 8 b n
  · simp (maxSteps := 4000000) -dsimp [-List.all_eq_true, -Array.all_eq_true, -Bool.exists_bool, -Bool.forall_bool, vcsE1, vcsE2, vcsE3, vcsE4, vcsE5, vcsE6, vcsE7, vcsE8, vcsE9, vcsE10, vcsE11, vcsE12, vcsE13, vcsE14, vcsE15, vcsE16, vcsE17, vcsE18, vcsE19, Sx.get, Sx.look, Sx.put, pureFn, findOrd, unF, dstOk, isFloatT, endVC, resFn, packC, newFn, storeFn, buildFn, undef, known, aggT, cellsC, Value.cells, findCon, Con.pure, Con.some, allV, partsV, partsC, fillL, Sx.exitTo, fAr, C.one, Value.oneCell', eqFn, eqFieldsFn, eqElemsFn, partFn, and_assoc, List.zipIdx, sliceFn, boundFn, AppV, CopyV, MakeSliceV, NewsV, GrowV, TextV, bytesL, notInt, typeAt, argAt, Con.read, Con.make, Con.ext, Con.rel, den, Con.extS, Con.draw, Con.step, Draws.steps, Tryz.f137, forkOkC, h, goodS, hpre]
  · simp (maxSteps := 4000000) -dsimp [-List.all_eq_true, -Array.all_eq_true, -Bool.exists_bool, -Bool.forall_bool, vcsE1, vcsE2, vcsE3, vcsE4, vcsE5, vcsE6, vcsE7, vcsE8, vcsE9, vcsE10, vcsE11, vcsE12, vcsE13, vcsE14, vcsE15, vcsE16, vcsE17, vcsE18, vcsE19, Sx.get, Sx.look, Sx.put, pureFn, findOrd, unF, dstOk, isFloatT, endVC, resFn, packC, newFn, storeFn, buildFn, undef, known, aggT, cellsC, Value.cells, findCon, Con.pure, Con.some, allV, partsV, partsC, fillL, Sx.exitTo, fAr, C.one, Value.oneCell', eqFn, eqFieldsFn, eqElemsFn, partFn, and_assoc, List.zipIdx, sliceFn, boundFn, AppV, CopyV, MakeSliceV, NewsV, GrowV, TextV, bytesL, notInt, typeAt, argAt, Con.read, Con.make, Con.ext, Con.rel, den, Con.extS, Con.draw, Con.step, Draws.steps, Tryz.f137, forkOkC, h, goodS, hpre]
def goodFC : Con Tryz.prog := Con.pure 137 Tryz.call137 (fun (i : ((Int) × (Int))) => match i with | (b, n) => [.agg #[.int .u8 b, .int .i64 n]]) (fun (i : ((Int) × (Int))) => match i with | (b, n) => 0 ≤ b ∧ b < 256) (fun (i : ((Int) × (Int))) => match i with | (b, n) => .agg #[.int .u8 (goodS 8 b n).1, .int .i64 (goodS 8 b n).2]) fun i w hp => goodFC_c i.1 i.2 hp w
theorem bitPushC_c (b n : Int) (x : Bool) (hpre : 0 ≤ b ∧ b < 65536) (w : World) : Calls Tryz.prog 64 #[.agg #[.int .u16 b, .int .i64 n], .bool x] w fun e w' => e = .returned (.agg #[.int .u16 (pushS 16 (goodS 16 b n) x).1, .int .i64 (pushS 16 (goodS 16 b n) x).2]) ∧ RowKit.Below w.heap.size w w' := by
  refine (plain_of_vcs ⟨[goodC, bitC], []⟩ hmx Tryz.func64 rfl (by kernel_rfl) (args := [.agg #[.int .u16 b, .int .i64 n], .bool x]) (by simp [Tryz.ntmps64]) w (· = .agg #[.int .u16 (pushS 16 (goodS 16 b n) x).1, .int .i64 (pushS 16 (goodS 16 b n) x).2]) 400 ?_).mono fun e w' ⟨v, h1, h2, h3⟩ => ⟨h2 ▸ h1, h3⟩
  have hg := (gS_ok (s := (b, n)) hpre.1).bd
  unfold gS at hg
  simp only at hg
  generalize hgg : goodS 16 b n = g at *
  obtain ⟨y, k⟩ := g
  simp only at hg
  have e1 : IntKind.i64.wrap (k + 1) = k + 1 := wrap_i64 (by omega) (by omega)
  have e2 := push_u0 hg.1
  have e3 := push_u1 hg.1
  cases x
  · simp (maxSteps := 4000000) -dsimp [-List.all_eq_true, -Array.all_eq_true, -Bool.exists_bool, -Bool.forall_bool, vcsE1, vcsE2, vcsE3, vcsE4, vcsE5, vcsE6, vcsE7, vcsE8, vcsE9, vcsE10, vcsE11, vcsE12, vcsE13, vcsE14, vcsE15, vcsE16, vcsE17, vcsE18, vcsE19, Sx.get, Sx.look, Sx.put, pureFn, findOrd, unF, dstOk, isFloatT, endVC, resFn, packC, newFn, storeFn, buildFn, undef, known, aggT, cellsC, Value.cells, findCon, Con.pure, Con.some, allV, partsV, partsC, fillL, Sx.exitTo, fAr, C.one, Value.oneCell', eqFn, eqFieldsFn, eqElemsFn, partFn, and_assoc, List.zipIdx, sliceFn, boundFn, AppV, CopyV, MakeSliceV, NewsV, GrowV, TextV, bytesL, notInt, typeAt, argAt, Con.read, Con.make, Con.ext, Con.rel, den, Con.extS, Con.draw, Con.step, Draws.steps, Tryz.f64, goodC, bitC, hpre, hgg, e1, e2, e3, pushS, min_if]
  · simp (maxSteps := 4000000) -dsimp [-List.all_eq_true, -Array.all_eq_true, -Bool.exists_bool, -Bool.forall_bool, vcsE1, vcsE2, vcsE3, vcsE4, vcsE5, vcsE6, vcsE7, vcsE8, vcsE9, vcsE10, vcsE11, vcsE12, vcsE13, vcsE14, vcsE15, vcsE16, vcsE17, vcsE18, vcsE19, Sx.get, Sx.look, Sx.put, pureFn, findOrd, unF, dstOk, isFloatT, endVC, resFn, packC, newFn, storeFn, buildFn, undef, known, aggT, cellsC, Value.cells, findCon, Con.pure, Con.some, allV, partsV, partsC, fillL, Sx.exitTo, fAr, C.one, Value.oneCell', eqFn, eqFieldsFn, eqElemsFn, partFn, and_assoc, List.zipIdx, sliceFn, boundFn, AppV, CopyV, MakeSliceV, NewsV, GrowV, TextV, bytesL, notInt, typeAt, argAt, Con.read, Con.make, Con.ext, Con.rel, den, Con.extS, Con.draw, Con.step, Draws.steps, Tryz.f64, goodC, bitC, hpre, hgg, e1, e2, e3, pushS, min_if]
def bitPushC : Con Tryz.prog := Con.pure 64 Tryz.call64 (fun (i : ((Int) × (Int) × (Bool))) => match i with | (b, n, x) => [.agg #[.int .u16 b, .int .i64 n], .bool x]) (fun (i : ((Int) × (Int) × (Bool))) => match i with | (b, n, x) => 0 ≤ b ∧ b < 65536) (fun (i : ((Int) × (Int) × (Bool))) => match i with | (b, n, x) => .agg #[.int .u16 (pushS 16 (goodS 16 b n) x).1, .int .i64 (pushS 16 (goodS 16 b n) x).2]) fun i w hp => bitPushC_c i.1 i.2.1 i.2.2 hp w
theorem bitPopC_c (b n : Int) (hpre : 0 ≤ b ∧ b < 65536) (w : World) : Calls Tryz.prog 66 #[.agg #[.int .u16 b, .int .i64 n]] w fun e w' => e = .returned (.tuple #[.agg #[.int .u16 (popS (goodS 16 b n)).1, .int .i64 (popS (goodS 16 b n)).2], .bool (topS (goodS 16 b n))]) ∧ RowKit.Below w.heap.size w w' := by
  refine (plain_of_vcs ⟨[goodC], [(4, [(0, false), (1, false), (2, false), (3, false), (4, false), (5, false), (6, false), (7, false), (8, false), (9, false), (10, false), (11, false), (8, true), (12, false)])]⟩ hmx Tryz.func66 rfl (by kernel_rfl) (args := [.agg #[.int .u16 b, .int .i64 n]]) (by simp [Tryz.ntmps66]) w (· = .tuple #[.agg #[.int .u16 (popS (goodS 16 b n)).1, .int .i64 (popS (goodS 16 b n)).2], .bool (topS (goodS 16 b n))]) 400 ?_).mono fun e w' ⟨v, h1, h2, h3⟩ => ⟨h2 ▸ h1, h3⟩
  have hg := (gS_ok (s := (b, n)) hpre.1).bd
  unfold gS at hg
  simp only at hg
  generalize hgg : goodS 16 b n = g at *
  obtain ⟨y, k⟩ := g
  simp only at hg
  have e1 : IntKind.i64.wrap (k - 1) = k - 1 := wrap_i64 (by omega) (by omega)
  have e2 := pop_u hg.1
  have e3 := top_u ⟨hg.1, hg.2.1⟩
  by_cases hk : k = 0
  · simp (maxSteps := 4000000) -dsimp [-List.all_eq_true, -Array.all_eq_true, -Bool.exists_bool, -Bool.forall_bool, vcsE1, vcsE2, vcsE3, vcsE4, vcsE5, vcsE6, vcsE7, vcsE8, vcsE9, vcsE10, vcsE11, vcsE12, vcsE13, vcsE14, vcsE15, vcsE16, vcsE17, vcsE18, vcsE19, Sx.get, Sx.look, Sx.put, pureFn, findOrd, unF, dstOk, isFloatT, endVC, resFn, packC, newFn, storeFn, buildFn, undef, known, aggT, cellsC, Value.cells, findCon, Con.pure, Con.some, allV, partsV, partsC, fillL, Sx.exitTo, fAr, C.one, Value.oneCell', eqFn, eqFieldsFn, eqElemsFn, partFn, and_assoc, List.zipIdx, sliceFn, boundFn, AppV, CopyV, MakeSliceV, NewsV, GrowV, TextV, bytesL, notInt, typeAt, argAt, Con.read, Con.make, Con.ext, Con.rel, den, Con.extS, Con.draw, Con.step, Draws.steps, Tryz.f66, goodC, hpre, hgg, e1, popS, topS, hk]
  · simp (maxSteps := 4000000) -dsimp [-List.all_eq_true, -Array.all_eq_true, -Bool.exists_bool, -Bool.forall_bool, vcsE1, vcsE2, vcsE3, vcsE4, vcsE5, vcsE6, vcsE7, vcsE8, vcsE9, vcsE10, vcsE11, vcsE12, vcsE13, vcsE14, vcsE15, vcsE16, vcsE17, vcsE18, vcsE19, Sx.get, Sx.look, Sx.put, pureFn, findOrd, unF, dstOk, isFloatT, endVC, resFn, packC, newFn, storeFn, buildFn, undef, known, aggT, cellsC, Value.cells, findCon, Con.pure, Con.some, allV, partsV, partsC, fillL, Sx.exitTo, fAr, C.one, Value.oneCell', eqFn, eqFieldsFn, eqElemsFn, partFn, and_assoc, List.zipIdx, sliceFn, boundFn, AppV, CopyV, MakeSliceV, NewsV, GrowV, TextV, bytesL, notInt, typeAt, argAt, Con.read, Con.make, Con.ext, Con.rel, den, Con.extS, Con.draw, Con.step, Draws.steps, Tryz.f66, goodC, hpre, hgg, e1, e2, e3, popS, topS, hk]
def bitPopC : Con Tryz.prog := Con.pure 66 Tryz.call66 (fun (i : ((Int) × (Int))) => match i with | (b, n) => [.agg #[.int .u16 b, .int .i64 n]]) (fun (i : ((Int) × (Int))) => match i with | (b, n) => 0 ≤ b ∧ b < 65536) (fun (i : ((Int) × (Int))) => match i with | (b, n) => .tuple #[.agg #[.int .u16 (popS (goodS 16 b n)).1, .int .i64 (popS (goodS 16 b n)).2], .bool (topS (goodS 16 b n))]) fun i w hp => bitPopC_c i.1 i.2 hp w
theorem bitTopC_c (b n : Int) (hpre : 0 ≤ b ∧ b < 65536) (w : World) : Calls Tryz.prog 38 #[.agg #[.int .u16 b, .int .i64 n]] w fun e w' => e = .returned (.bool (topS (goodS 16 b n))) ∧ RowKit.Below w.heap.size w w' := by
  refine (plain_of_vcs ⟨[bitPopC], []⟩ hmx Tryz.func38 rfl (by kernel_rfl) (args := [.agg #[.int .u16 b, .int .i64 n]]) (by simp [Tryz.ntmps38]) w (· = .bool (topS (goodS 16 b n))) 400 ?_).mono fun e w' ⟨v, h1, h2, h3⟩ => ⟨h2 ▸ h1, h3⟩
  simp (maxSteps := 4000000) -dsimp [-List.all_eq_true, -Array.all_eq_true, -Bool.exists_bool, -Bool.forall_bool, vcsE1, vcsE2, vcsE3, vcsE4, vcsE5, vcsE6, vcsE7, vcsE8, vcsE9, vcsE10, vcsE11, vcsE12, vcsE13, vcsE14, vcsE15, vcsE16, vcsE17, vcsE18, vcsE19, Sx.get, Sx.look, Sx.put, pureFn, findOrd, unF, dstOk, isFloatT, endVC, resFn, packC, newFn, storeFn, buildFn, undef, known, aggT, cellsC, Value.cells, findCon, Con.pure, Con.some, allV, partsV, partsC, fillL, Sx.exitTo, fAr, C.one, Value.oneCell', eqFn, eqFieldsFn, eqElemsFn, partFn, and_assoc, List.zipIdx, sliceFn, boundFn, AppV, CopyV, MakeSliceV, NewsV, GrowV, TextV, bytesL, notInt, typeAt, argAt, Con.read, Con.make, Con.ext, Con.rel, den, Con.extS, Con.draw, Con.step, Draws.steps, Tryz.f38, bitPopC, hpre]
def bitTopC : Con Tryz.prog := Con.pure 38 Tryz.call38 (fun (i : ((Int) × (Int))) => match i with | (b, n) => [.agg #[.int .u16 b, .int .i64 n]]) (fun (i : ((Int) × (Int))) => match i with | (b, n) => 0 ≤ b ∧ b < 65536) (fun (i : ((Int) × (Int))) => match i with | (b, n) => .bool (topS (goodS 16 b n))) fun i w hp => bitTopC_c i.1 i.2 hp w
theorem forkPushC_c (b n : Int) (x : Bool) (hpre : 0 ≤ b ∧ b < 256) (w : World) : Calls Tryz.prog 67 #[.agg #[.int .u8 b, .int .i64 n], .bool x] w fun e w' => e = .returned (.agg #[.int .u8 (pushS 8 (goodS 8 b n) x).1, .int .i64 (pushS 8 (goodS 8 b n) x).2]) ∧ RowKit.Below w.heap.size w w' := by
  refine (plain_of_vcs ⟨[goodFC, bitC], []⟩ hmx Tryz.func67 rfl (by kernel_rfl) (args := [.agg #[.int .u8 b, .int .i64 n], .bool x]) (by simp [Tryz.ntmps67]) w (· = .agg #[.int .u8 (pushS 8 (goodS 8 b n) x).1, .int .i64 (pushS 8 (goodS 8 b n) x).2]) 400 ?_).mono fun e w' ⟨v, h1, h2, h3⟩ => ⟨h2 ▸ h1, h3⟩
  have hg := (gF_ok (s := (b, n)) hpre.1).bd
  unfold gF at hg
  simp only at hg
  generalize hgg : goodS 8 b n = g at *
  obtain ⟨y, k⟩ := g
  simp only at hg
  have e1 : IntKind.i64.wrap (k + 1) = k + 1 := wrap_i64 (by omega) (by omega)
  have e2 := push_u80 hg.1
  have e3 := push_u81 hg.1
  have e4 : IntKind.u8.wrap 0 = 0 := rfl
  have e5 : IntKind.u8.wrap 1 = 1 := rfl
  cases x
  · simp (maxSteps := 4000000) -dsimp [-List.all_eq_true, -Array.all_eq_true, -Bool.exists_bool, -Bool.forall_bool, vcsE1, vcsE2, vcsE3, vcsE4, vcsE5, vcsE6, vcsE7, vcsE8, vcsE9, vcsE10, vcsE11, vcsE12, vcsE13, vcsE14, vcsE15, vcsE16, vcsE17, vcsE18, vcsE19, Sx.get, Sx.look, Sx.put, pureFn, findOrd, unF, dstOk, isFloatT, endVC, resFn, packC, newFn, storeFn, buildFn, undef, known, aggT, cellsC, Value.cells, findCon, Con.pure, Con.some, allV, partsV, partsC, fillL, Sx.exitTo, fAr, C.one, Value.oneCell', eqFn, eqFieldsFn, eqElemsFn, partFn, and_assoc, List.zipIdx, sliceFn, boundFn, AppV, CopyV, MakeSliceV, NewsV, GrowV, TextV, bytesL, notInt, typeAt, argAt, Con.read, Con.make, Con.ext, Con.rel, den, Con.extS, Con.draw, Con.step, Draws.steps, Tryz.f67, goodFC, bitC, hpre, hgg, e1, e2, e3, e4, e5, pushS, min_if]
  · simp (maxSteps := 4000000) -dsimp [-List.all_eq_true, -Array.all_eq_true, -Bool.exists_bool, -Bool.forall_bool, vcsE1, vcsE2, vcsE3, vcsE4, vcsE5, vcsE6, vcsE7, vcsE8, vcsE9, vcsE10, vcsE11, vcsE12, vcsE13, vcsE14, vcsE15, vcsE16, vcsE17, vcsE18, vcsE19, Sx.get, Sx.look, Sx.put, pureFn, findOrd, unF, dstOk, isFloatT, endVC, resFn, packC, newFn, storeFn, buildFn, undef, known, aggT, cellsC, Value.cells, findCon, Con.pure, Con.some, allV, partsV, partsC, fillL, Sx.exitTo, fAr, C.one, Value.oneCell', eqFn, eqFieldsFn, eqElemsFn, partFn, and_assoc, List.zipIdx, sliceFn, boundFn, AppV, CopyV, MakeSliceV, NewsV, GrowV, TextV, bytesL, notInt, typeAt, argAt, Con.read, Con.make, Con.ext, Con.rel, den, Con.extS, Con.draw, Con.step, Draws.steps, Tryz.f67, goodFC, bitC, hpre, hgg, e1, e2, e3, e4, e5, pushS, min_if]
def forkPushC : Con Tryz.prog := Con.pure 67 Tryz.call67 (fun (i : ((Int) × (Int) × (Bool))) => match i with | (b, n, x) => [.agg #[.int .u8 b, .int .i64 n], .bool x]) (fun (i : ((Int) × (Int) × (Bool))) => match i with | (b, n, x) => 0 ≤ b ∧ b < 256) (fun (i : ((Int) × (Int) × (Bool))) => match i with | (b, n, x) => .agg #[.int .u8 (pushS 8 (goodS 8 b n) x).1, .int .i64 (pushS 8 (goodS 8 b n) x).2]) fun i w hp => forkPushC_c i.1 i.2.1 i.2.2 hp w
theorem forkPopC_c (b n : Int) (hpre : 0 ≤ b ∧ b < 256) (w : World) : Calls Tryz.prog 69 #[.agg #[.int .u8 b, .int .i64 n]] w fun e w' => e = .returned (.tuple #[.agg #[.int .u8 (popS (goodS 8 b n)).1, .int .i64 (popS (goodS 8 b n)).2], .bool (topS (goodS 8 b n))]) ∧ RowKit.Below w.heap.size w w' := by
  refine (plain_of_vcs ⟨[goodFC], [(4, [(0, false), (1, false), (2, false), (3, false), (4, false), (5, false), (6, false), (7, false), (8, false), (9, false), (10, false), (11, false), (8, true), (12, false)])]⟩ hmx Tryz.func69 rfl (by kernel_rfl) (args := [.agg #[.int .u8 b, .int .i64 n]]) (by simp [Tryz.ntmps69]) w (· = .tuple #[.agg #[.int .u8 (popS (goodS 8 b n)).1, .int .i64 (popS (goodS 8 b n)).2], .bool (topS (goodS 8 b n))]) 400 ?_).mono fun e w' ⟨v, h1, h2, h3⟩ => ⟨h2 ▸ h1, h3⟩
  have hg := (gF_ok (s := (b, n)) hpre.1).bd
  unfold gF at hg
  simp only at hg
  generalize hgg : goodS 8 b n = g at *
  obtain ⟨y, k⟩ := g
  simp only at hg
  have e1 : IntKind.i64.wrap (k - 1) = k - 1 := wrap_i64 (by omega) (by omega)
  have e2 := pop_u8 hg.1
  have e3 := top_u8 ⟨hg.1, hg.2.1⟩
  by_cases hk : k = 0
  · simp (maxSteps := 4000000) -dsimp [-List.all_eq_true, -Array.all_eq_true, -Bool.exists_bool, -Bool.forall_bool, vcsE1, vcsE2, vcsE3, vcsE4, vcsE5, vcsE6, vcsE7, vcsE8, vcsE9, vcsE10, vcsE11, vcsE12, vcsE13, vcsE14, vcsE15, vcsE16, vcsE17, vcsE18, vcsE19, Sx.get, Sx.look, Sx.put, pureFn, findOrd, unF, dstOk, isFloatT, endVC, resFn, packC, newFn, storeFn, buildFn, undef, known, aggT, cellsC, Value.cells, findCon, Con.pure, Con.some, allV, partsV, partsC, fillL, Sx.exitTo, fAr, C.one, Value.oneCell', eqFn, eqFieldsFn, eqElemsFn, partFn, and_assoc, List.zipIdx, sliceFn, boundFn, AppV, CopyV, MakeSliceV, NewsV, GrowV, TextV, bytesL, notInt, typeAt, argAt, Con.read, Con.make, Con.ext, Con.rel, den, Con.extS, Con.draw, Con.step, Draws.steps, Tryz.f69, goodFC, hpre, hgg, e1, popS, topS, hk]
  · simp (maxSteps := 4000000) -dsimp [-List.all_eq_true, -Array.all_eq_true, -Bool.exists_bool, -Bool.forall_bool, vcsE1, vcsE2, vcsE3, vcsE4, vcsE5, vcsE6, vcsE7, vcsE8, vcsE9, vcsE10, vcsE11, vcsE12, vcsE13, vcsE14, vcsE15, vcsE16, vcsE17, vcsE18, vcsE19, Sx.get, Sx.look, Sx.put, pureFn, findOrd, unF, dstOk, isFloatT, endVC, resFn, packC, newFn, storeFn, buildFn, undef, known, aggT, cellsC, Value.cells, findCon, Con.pure, Con.some, allV, partsV, partsC, fillL, Sx.exitTo, fAr, C.one, Value.oneCell', eqFn, eqFieldsFn, eqElemsFn, partFn, and_assoc, List.zipIdx, sliceFn, boundFn, AppV, CopyV, MakeSliceV, NewsV, GrowV, TextV, bytesL, notInt, typeAt, argAt, Con.read, Con.make, Con.ext, Con.rel, den, Con.extS, Con.draw, Con.step, Draws.steps, Tryz.f69, goodFC, hpre, hgg, e1, e2, e3, popS, topS, hk]
def forkPopC : Con Tryz.prog := Con.pure 69 Tryz.call69 (fun (i : ((Int) × (Int))) => match i with | (b, n) => [.agg #[.int .u8 b, .int .i64 n]]) (fun (i : ((Int) × (Int))) => match i with | (b, n) => 0 ≤ b ∧ b < 256) (fun (i : ((Int) × (Int))) => match i with | (b, n) => .tuple #[.agg #[.int .u8 (popS (goodS 8 b n)).1, .int .i64 (popS (goodS 8 b n)).2], .bool (topS (goodS 8 b n))]) fun i w hp => forkPopC_c i.1 i.2 hp w
theorem forkTopC_c (b n : Int) (hpre : 0 ≤ b ∧ b < 256) (w : World) : Calls Tryz.prog 68 #[.agg #[.int .u8 b, .int .i64 n]] w fun e w' => e = .returned (.bool (topS (goodS 8 b n))) ∧ RowKit.Below w.heap.size w w' := by
  refine (plain_of_vcs ⟨[forkPopC], []⟩ hmx Tryz.func68 rfl (by kernel_rfl) (args := [.agg #[.int .u8 b, .int .i64 n]]) (by simp [Tryz.ntmps68]) w (· = .bool (topS (goodS 8 b n))) 400 ?_).mono fun e w' ⟨v, h1, h2, h3⟩ => ⟨h2 ▸ h1, h3⟩
  simp (maxSteps := 4000000) -dsimp [-List.all_eq_true, -Array.all_eq_true, -Bool.exists_bool, -Bool.forall_bool, vcsE1, vcsE2, vcsE3, vcsE4, vcsE5, vcsE6, vcsE7, vcsE8, vcsE9, vcsE10, vcsE11, vcsE12, vcsE13, vcsE14, vcsE15, vcsE16, vcsE17, vcsE18, vcsE19, Sx.get, Sx.look, Sx.put, pureFn, findOrd, unF, dstOk, isFloatT, endVC, resFn, packC, newFn, storeFn, buildFn, undef, known, aggT, cellsC, Value.cells, findCon, Con.pure, Con.some, allV, partsV, partsC, fillL, Sx.exitTo, fAr, C.one, Value.oneCell', eqFn, eqFieldsFn, eqElemsFn, partFn, and_assoc, List.zipIdx, sliceFn, boundFn, AppV, CopyV, MakeSliceV, NewsV, GrowV, TextV, bytesL, notInt, typeAt, argAt, Con.read, Con.make, Con.ext, Con.rel, den, Con.extS, Con.draw, Con.step, Draws.steps, Tryz.f68, forkPopC, hpre]
def forkTopC : Con Tryz.prog := Con.pure 68 Tryz.call68 (fun (i : ((Int) × (Int))) => match i with | (b, n) => [.agg #[.int .u8 b, .int .i64 n]]) (fun (i : ((Int) × (Int))) => match i with | (b, n) => 0 ≤ b ∧ b < 256) (fun (i : ((Int) × (Int))) => match i with | (b, n) => .bool (topS (goodS 8 b n))) fun i w hp => forkTopC_c i.1 i.2 hp w
theorem bitTurnC_c (b n : Int) (x : Bool) (hpre : 0 ≤ b ∧ b < 65536) (w : World) : Calls Tryz.prog 65 #[.agg #[.int .u16 b, .int .i64 n], .bool x] w fun e w' => e = .returned (.agg #[.int .u16 (turnS (goodS 16 b n) x).1, .int .i64 (turnS (goodS 16 b n) x).2]) ∧ RowKit.Below w.heap.size w w' := by
  refine (plain_of_vcs ⟨[goodC, bitC], []⟩ hmx Tryz.func65 rfl (by kernel_rfl) (args := [.agg #[.int .u16 b, .int .i64 n], .bool x]) (by simp [Tryz.ntmps65]) w (· = .agg #[.int .u16 (turnS (goodS 16 b n) x).1, .int .i64 (turnS (goodS 16 b n) x).2]) 400 ?_).mono fun e w' ⟨v, h1, h2, h3⟩ => ⟨h2 ▸ h1, h3⟩
  have hg := (gS_ok (s := (b, n)) hpre.1).bd
  unfold gS at hg
  simp only at hg
  generalize hgg : goodS 16 b n = g at *
  obtain ⟨y, k⟩ := g
  simp only at hg
  by_cases hk : k = 0
  · simp (maxSteps := 4000000) -dsimp [-List.all_eq_true, -Array.all_eq_true, -Bool.exists_bool, -Bool.forall_bool, vcsE1, vcsE2, vcsE3, vcsE4, vcsE5, vcsE6, vcsE7, vcsE8, vcsE9, vcsE10, vcsE11, vcsE12, vcsE13, vcsE14, vcsE15, vcsE16, vcsE17, vcsE18, vcsE19, Sx.get, Sx.look, Sx.put, pureFn, findOrd, unF, dstOk, isFloatT, endVC, resFn, packC, newFn, storeFn, buildFn, undef, known, aggT, cellsC, Value.cells, findCon, Con.pure, Con.some, allV, partsV, partsC, fillL, Sx.exitTo, fAr, C.one, Value.oneCell', eqFn, eqFieldsFn, eqElemsFn, partFn, and_assoc, List.zipIdx, sliceFn, boundFn, AppV, CopyV, MakeSliceV, NewsV, GrowV, TextV, bytesL, notInt, typeAt, argAt, Con.read, Con.make, Con.ext, Con.rel, den, Con.extS, Con.draw, Con.step, Draws.steps, Tryz.f65, goodC, bitC, hpre, hgg, turnS, hk]
  · have e1 := turn_u0 ⟨hg.1, hg.2.1⟩
    have e2 := turn_u1 ⟨hg.1, hg.2.1⟩
    cases x
    · simp (maxSteps := 4000000) -dsimp [-List.all_eq_true, -Array.all_eq_true, -Bool.exists_bool, -Bool.forall_bool, vcsE1, vcsE2, vcsE3, vcsE4, vcsE5, vcsE6, vcsE7, vcsE8, vcsE9, vcsE10, vcsE11, vcsE12, vcsE13, vcsE14, vcsE15, vcsE16, vcsE17, vcsE18, vcsE19, Sx.get, Sx.look, Sx.put, pureFn, findOrd, unF, dstOk, isFloatT, endVC, resFn, packC, newFn, storeFn, buildFn, undef, known, aggT, cellsC, Value.cells, findCon, Con.pure, Con.some, allV, partsV, partsC, fillL, Sx.exitTo, fAr, C.one, Value.oneCell', eqFn, eqFieldsFn, eqElemsFn, partFn, and_assoc, List.zipIdx, sliceFn, boundFn, AppV, CopyV, MakeSliceV, NewsV, GrowV, TextV, bytesL, notInt, typeAt, argAt, Con.read, Con.make, Con.ext, Con.rel, den, Con.extS, Con.draw, Con.step, Draws.steps, Tryz.f65, goodC, bitC, hpre, hgg, turnS, hk, e1, e2]
    · simp (maxSteps := 4000000) -dsimp [-List.all_eq_true, -Array.all_eq_true, -Bool.exists_bool, -Bool.forall_bool, vcsE1, vcsE2, vcsE3, vcsE4, vcsE5, vcsE6, vcsE7, vcsE8, vcsE9, vcsE10, vcsE11, vcsE12, vcsE13, vcsE14, vcsE15, vcsE16, vcsE17, vcsE18, vcsE19, Sx.get, Sx.look, Sx.put, pureFn, findOrd, unF, dstOk, isFloatT, endVC, resFn, packC, newFn, storeFn, buildFn, undef, known, aggT, cellsC, Value.cells, findCon, Con.pure, Con.some, allV, partsV, partsC, fillL, Sx.exitTo, fAr, C.one, Value.oneCell', eqFn, eqFieldsFn, eqElemsFn, partFn, and_assoc, List.zipIdx, sliceFn, boundFn, AppV, CopyV, MakeSliceV, NewsV, GrowV, TextV, bytesL, notInt, typeAt, argAt, Con.read, Con.make, Con.ext, Con.rel, den, Con.extS, Con.draw, Con.step, Draws.steps, Tryz.f65, goodC, bitC, hpre, hgg, turnS, hk, e1, e2]
def bitTurnC : Con Tryz.prog := Con.pure 65 Tryz.call65 (fun (i : ((Int) × (Int) × (Bool))) => match i with | (b, n, x) => [.agg #[.int .u16 b, .int .i64 n], .bool x]) (fun (i : ((Int) × (Int) × (Bool))) => match i with | (b, n, x) => 0 ≤ b ∧ b < 65536) (fun (i : ((Int) × (Int) × (Bool))) => match i with | (b, n, x) => .agg #[.int .u16 (turnS (goodS 16 b n) x).1, .int .i64 (turnS (goodS 16 b n) x).2]) fun i w hp => bitTurnC_c i.1 i.2.1 i.2.2 hp w
end Go.Proofs.YtmiicjgbhkjocaaGreat
