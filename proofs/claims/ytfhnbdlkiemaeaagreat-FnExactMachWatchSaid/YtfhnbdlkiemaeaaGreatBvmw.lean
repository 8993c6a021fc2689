/-
  Contracts: packed stacks, by the reference.
-/
import Derived.Test.YtfhnbdlkiemaeaaGreatAmw
import Derived.Test.YtfhnbdlkiemaeaaGreatMcmw
import Derived.Test.YtfhnbdlkiemaeaaGreatSwmw
import Derived.Test.YtfhnbdlkiemaeaaGreatImw
set_option linter.unusedVariables false
set_option linter.unusedSimpArgs false
set_option maxRecDepth 100000
set_option maxHeartbeats 4000000
namespace Go.Proofs.YtfhnbdlkiemaeaaGreat
open Go Go.Sx
attribute [local simp] Go.Sx.vcsE1 Go.Sx.vcsE2 Go.Sx.vcsE3 Go.Sx.vcsE4 Go.Sx.vcsE5 Go.Sx.vcsE6 Go.Sx.vcsE7 Go.Sx.vcsE8 Go.Sx.vcsE9 Go.Sx.vcsE10 Go.Sx.vcsE11 Go.Sx.vcsE12 Go.Sx.vcsE13 Go.Sx.vcsE14 Go.Sx.vcsE15 Go.Sx.vcsE16 Go.Sx.vcsE17 Go.Sx.vcsE18 Go.Sx.vcsE19 Go.Sx.get Go.Sx.look Go.Sx.put Go.Sx.pureFn Go.Sx.findOrd Go.Sx.unF Go.Sx.dstOk Go.Sx.isFloatT Go.Sx.endVC Go.Sx.resFn Go.Sx.packC Go.Sx.newFn Go.Sx.storeFn Go.Sx.buildFn Go.Sx.known Go.Sx.aggT Go.Sx.cellsC Go.Sx.findCon Go.Sx.allV Go.Sx.partsV Go.Sx.partsC Go.Sx.fillL Go.Sx.exitTo Go.Sx.fAr Go.Sx.eqFn Go.Sx.eqFieldsFn Go.Sx.eqElemsFn Go.Sx.partFn Go.Sx.sliceFn Go.Sx.boundFn Go.Sx.AppV Go.Sx.CopyV Go.Sx.MakeSliceV Go.Sx.NewsV Go.Sx.GrowV Go.Sx.TextV Go.Sx.bytesL Go.Sx.notInt Go.Sx.typeAt Go.Sx.argAt Go.Sx.den Go.undef Go.Value.cells Go.Value.oneCell' Go.Sx.Con.pure Go.Sx.Con.some Go.Sx.Con.read Go.Sx.Con.make Go.Sx.Con.ext Go.Sx.Con.rel Go.Sx.Con.extS Go.Sx.Con.draw Go.Sx.Con.step Go.Sx.C.one Go.Sx.Draws.steps

theorem shr_zero {b : Int} {k : Nat} (h : 0 ≤ b) : (b.fdiv (2 ^ k) == 0) = decide (b < 2 ^ k) := by
  have hp := pow_pos2 k
  rw [Int.fdiv_eq_ediv_of_nonneg _ (by omega), Bool.eq_iff_iff]
  simp only [beq_iff_eq, decide_eq_true_eq]
  constructor
  · intro h0
    by_cases hb : b < 2 ^ k
    · exact hb
    · have := (Int.le_ediv_iff_mul_le hp (a := 1) (b := b)).2 (by omega)
      omega
  · exact fun hb => Int.ediv_eq_zero_of_lt h hb
theorem even_or {z : Int} (h : 0 ≤ z ∧ z < 65536) (he : z % 2 = 0) : (((z % 65536).toNat ||| 1 : Nat) : Int) = z + 1 := by
  have hz : z % 65536 = z := Int.emod_eq_of_lt h.1 h.2
  rw [hz]
  obtain ⟨a, ha⟩ : ∃ a : Nat, z = 2 * a := ⟨(z / 2).toNat, by omega⟩
  have e : z.toNat = 2 ^ 1 * a := by omega
  rw [e, ← Nat.two_pow_add_eq_or_of_lt (by decide : 1 < 2 ^ 1)]
  push_cast
  omega
theorem shl_u16 {y : Int} : IntKind.u16.wrap (y * 2 ^ min 1 IntKind.u16.bits) = (2 * y) % 65536 := by
  have e : min 1 IntKind.u16.bits = 1 := rfl
  rw [e]
  simp only [IntKind.wrap, IntKind.signed, IntKind.bits]
  simp
  omega
theorem push_u0 {y : Int} (h : 0 ≤ y) : IntKind.u16.wrap (max (IntKind.u16.wrap (y * 2 ^ min 1 IntKind.u16.bits) % 2 ^ IntKind.u16.bits) 0) = (2 * y + b2i false) % 65536 := by
  rw [shl_u16]
  have e : (2 : Int) ^ IntKind.u16.bits = 65536 := rfl
  have eb : b2i false = 0 := rfl
  rw [e, eb]
  rw [wrap_u16 (by omega) (by omega)]
  omega
theorem push_u1 {y : Int} (h : 0 ≤ y) : IntKind.u16.wrap (((IntKind.u16.wrap (y * 2 ^ min 1 IntKind.u16.bits) % 2 ^ IntKind.u16.bits).toNat ||| ((1 : Int) % 2 ^ IntKind.u16.bits).toNat : Nat) : Int) = (2 * y + b2i true) % 65536 := by
  rw [shl_u16]
  have e : (2 : Int) ^ IntKind.u16.bits = 65536 := rfl
  have eb : b2i true = 1 := rfl
  have e1 : ((1 : Int) % 65536).toNat = 1 := rfl
  rw [e, eb, e1, even_or (by omega) (by omega), wrap_u16 (by omega) (by omega)]
  omega
theorem pop_u {y : Int} (h : 0 ≤ y) : y.fdiv (2 ^ min 1 IntKind.u16.bits) = y / 2 := by
  have e : min 1 IntKind.u16.bits = 1 := rfl
  rw [e, Int.fdiv_eq_ediv_of_nonneg _ (by decide)]
  rfl
theorem top_u {y : Int} (h : 0 ≤ y ∧ y < 65536) : (IntKind.u16.wrap (((y % 2 ^ IntKind.u16.bits).toNat &&& 1 % 2 ^ IntKind.u16.bits : Nat) : Int) == 1) = decide (y % 2 = 1) := by
  have e : (2 : Int) ^ IntKind.u16.bits = 65536 := rfl
  have e2 : 1 % 2 ^ IntKind.u16.bits = 1 := rfl
  rw [e, e2, Nat.and_one_is_mod, Int.emod_eq_of_lt h.1 h.2, wrap_u16 (by omega) (by omega), Bool.eq_iff_iff]
  simp only [beq_iff_eq, decide_eq_true_eq]
  omega
theorem even_or8 {z : Int} (h : 0 ≤ z ∧ z < 256) (he : z % 2 = 0) : (((z % 256).toNat ||| 1 : Nat) : Int) = z + 1 := by
  have hz : z % 256 = z := Int.emod_eq_of_lt h.1 h.2
  rw [hz]
  obtain ⟨a, ha⟩ : ∃ a : Nat, z = 2 * a := ⟨(z / 2).toNat, by omega⟩
  have e : z.toNat = 2 ^ 1 * a := by omega
  rw [e, ← Nat.two_pow_add_eq_or_of_lt (by decide : 1 < 2 ^ 1)]
  push_cast
  omega
theorem shl_u8 {y : Int} : IntKind.u8.wrap (y * 2 ^ min 1 IntKind.u8.bits) = (2 * y) % 256 := by
  have e : min 1 IntKind.u8.bits = 1 := rfl
  rw [e]
  simp only [IntKind.wrap, IntKind.signed, IntKind.bits]
  simp
  omega
theorem push_u80 {y : Int} (h : 0 ≤ y) : IntKind.u8.wrap (max (IntKind.u8.wrap (y * 2 ^ min 1 IntKind.u8.bits) % 2 ^ IntKind.u8.bits) 0) = (2 * y + b2i false) % 256 := by
  rw [shl_u8]
  have e : (2 : Int) ^ IntKind.u8.bits = 256 := rfl
  have eb : b2i false = 0 := rfl
  rw [e, eb]
  rw [wrap_u8 (by omega) (by omega)]
  omega
theorem push_u81 {y : Int} (h : 0 ≤ y) : IntKind.u8.wrap (((IntKind.u8.wrap (y * 2 ^ min 1 IntKind.u8.bits) % 2 ^ IntKind.u8.bits).toNat ||| ((1 : Int) % 2 ^ IntKind.u8.bits).toNat : Nat) : Int) = (2 * y + b2i true) % 256 := by
  rw [shl_u8]
  have e : (2 : Int) ^ IntKind.u8.bits = 256 := rfl
  have eb : b2i true = 1 := rfl
  have e1 : ((1 : Int) % 256).toNat = 1 := rfl
  rw [e, eb, e1, even_or8 (by omega) (by omega), wrap_u8 (by omega) (by omega)]
  omega
theorem pop_u8 {y : Int} (h : 0 ≤ y) : y.fdiv (2 ^ min 1 IntKind.u8.bits) = y / 2 := by
  have e : min 1 IntKind.u8.bits = 1 := rfl
  rw [e, Int.fdiv_eq_ediv_of_nonneg _ (by decide)]
  rfl
theorem top_u8 {y : Int} (h : 0 ≤ y ∧ y < 256) : (IntKind.u8.wrap (((y % 2 ^ IntKind.u8.bits).toNat &&& 1 % 2 ^ IntKind.u8.bits : Nat) : Int) == 1) = decide (y % 2 = 1) := by
  have e : (2 : Int) ^ IntKind.u8.bits = 256 := rfl
  have e2 : 1 % 2 ^ IntKind.u8.bits = 1 := rfl
  rw [e, e2, Nat.and_one_is_mod, Int.emod_eq_of_lt h.1 h.2, wrap_u8 (by omega) (by omega), Bool.eq_iff_iff]
  simp only [beq_iff_eq, decide_eq_true_eq]
  omega
theorem and_u1 {y : Int} (h : 0 ≤ y ∧ y < 65536) : IntKind.u16.wrap (((y % 2 ^ IntKind.u16.bits).toNat &&& 2 ^ IntKind.u16.bits - 1 - 1 % 2 ^ IntKind.u16.bits : Nat) : Int) = 2 * (y / 2) := by
  have e : (2 : Int) ^ IntKind.u16.bits = 65536 := rfl
  have e2 : 2 ^ IntKind.u16.bits - 1 - 1 % 2 ^ IntKind.u16.bits = 2 ^ 16 - 1 - 2 ^ 0 := rfl
  have hn := nat_put y.toNat 16 0 0 (by omega) (by decide) (by decide)
  simp only [Nat.zero_mul, Nat.or_zero, Nat.pow_zero, Nat.div_one, Nat.mul_one, Nat.add_zero] at hn
  rw [e, e2, Int.emod_eq_of_lt h.1 h.2, Nat.pow_zero, hn, wrap_u16 (by omega) (by omega)]
  omega
theorem turn_u0 {y : Int} (h : 0 ≤ y ∧ y < 65536) : IntKind.u16.wrap (max (IntKind.u16.wrap (((y % 2 ^ IntKind.u16.bits).toNat &&& 2 ^ IntKind.u16.bits - 1 - 1 % 2 ^ IntKind.u16.bits : Nat) : Int) % 2 ^ IntKind.u16.bits) 0) = 2 * (y / 2) + b2i false := by
  have e : (2 : Int) ^ IntKind.u16.bits = 65536 := rfl
  have eb : b2i false = 0 := rfl
  rw [and_u1 h, e, eb, wrap_u16 (by omega) (by omega)]
  omega
theorem turn_u1 {y : Int} (h : 0 ≤ y ∧ y < 65536) : IntKind.u16.wrap (((IntKind.u16.wrap (((y % 2 ^ IntKind.u16.bits).toNat &&& 2 ^ IntKind.u16.bits - 1 - 1 % 2 ^ IntKind.u16.bits : Nat) : Int) % 2 ^ IntKind.u16.bits).toNat ||| ((1 : Int) % 2 ^ IntKind.u16.bits).toNat : Nat) : Int) = 2 * (y / 2) + b2i true := by
  have e : (2 : Int) ^ IntKind.u16.bits = 65536 := rfl
  have eb : b2i true = 1 := rfl
  have e1 : ((1 : Int) % 65536).toNat = 1 := rfl
  rw [and_u1 h, e, eb, e1, even_or (by omega) (by omega), wrap_u16 (by omega) (by omega)]
theorem min_if (k m : Int) : (if m < k then m else k) = min k m := by omega
theorem bitOkC_c (b n : Int) (hpre : 0 ≤ b ∧ b < 65536) (w : World) : Calls Tryz.prog 19 #[.agg #[.int .u16 b, .int .i64 n]] w fun e w' => e = .returned (.bool (okS 16 b n)) ∧ RowKit.Below w.heap.size w w' := by
  refine (plain_of_vcs ⟨[withinC], []⟩ hmx Tryz.func19 rfl (by kernel_rfl) (args := [.agg #[.int .u16 b, .int .i64 n]]) (by simp [Tryz.ntmps19]) w (· = .bool (okS 16 b n)) 400 ?_).mono fun e w' ⟨v, h1, h2, h3⟩ => ⟨h2 ▸ h1, h3⟩
  obtain ⟨hb, hb2⟩ := hpre
  by_cases h : 0 ≤ n ∧ n ≤ 16
  · have e1 : IntKind.u32.wrap b = b := wrap_u32 hb (by omega)
    have e2 : IntKind.u64.wrap n = n := wrap_u64 h.1 (by omega)
    have e3 : min n.toNat IntKind.u32.bits = n.toNat := by
      have : IntKind.u32.bits = 32 := rfl
      omega
    have e4 : okS 16 b n = decide (b < 2 ^ n.toNat) := by
      unfold okS
      congr 1
      apply propext
      exact ⟨fun h => h.2.2, fun h' => ⟨h.1, by simpa using h.2, h'⟩⟩
    simp (maxSteps := 4000000) -dsimp [-List.all_eq_true, -Array.all_eq_true, -Bool.exists_bool, -Bool.forall_bool, and_assoc, List.zipIdx, Tryz.f19, withinC, h.1, h.2, e1, e2, e3, e4, shr_zero hb]
    intro _; omega
  · have e4 : okS 16 b n = false := by
      cases e : okS 16 b n
      · rfl
      · have := okS_iff.1 e; exact absurd ⟨this.1, by simpa using this.2.1⟩ h
    by_cases h0 : 0 ≤ n
    · have h1 : ¬ n ≤ 16 := fun h' => h ⟨h0, h'⟩
      simp (maxSteps := 4000000) -dsimp [-List.all_eq_true, -Array.all_eq_true, -Bool.exists_bool, -Bool.forall_bool, and_assoc, List.zipIdx, Tryz.f19, withinC, h0, h1, e4]
    · simp (maxSteps := 4000000) -dsimp [-List.all_eq_true, -Array.all_eq_true, -Bool.exists_bool, -Bool.forall_bool, and_assoc, List.zipIdx, Tryz.f19, withinC, h0, e4]
def bitOkC : Con Tryz.prog := Con.pure 19 Tryz.call19 (fun (i : ((Int) × (Int))) => match i with | (b, n) => [.agg #[.int .u16 b, .int .i64 n]]) (fun (i : ((Int) × (Int))) => match i with | (b, n) => 0 ≤ b ∧ b < 65536) (fun (i : ((Int) × (Int))) => match i with | (b, n) => .bool (okS 16 b n)) fun i w hp => bitOkC_c i.1 i.2 hp w
theorem forkOkC_c (b n : Int) (hpre : 0 ≤ b ∧ b < 256) (w : World) : Calls Tryz.prog 20 #[.agg #[.int .u8 b, .int .i64 n]] w fun e w' => e = .returned (.bool (okS 8 b n)) ∧ RowKit.Below w.heap.size w w' := by
  refine (plain_of_vcs ⟨[withinC], []⟩ hmx Tryz.func20 rfl (by kernel_rfl) (args := [.agg #[.int .u8 b, .int .i64 n]]) (by simp [Tryz.ntmps20]) w (· = .bool (okS 8 b n)) 400 ?_).mono fun e w' ⟨v, h1, h2, h3⟩ => ⟨h2 ▸ h1, h3⟩
  obtain ⟨hb, hb2⟩ := hpre
  by_cases h : 0 ≤ n ∧ n ≤ 8
  · have e1 : IntKind.u32.wrap b = b := wrap_u32 hb (by omega)
    have e2 : IntKind.u64.wrap n = n := wrap_u64 h.1 (by omega)
    have e3 : min n.toNat IntKind.u32.bits = n.toNat := by
      have : IntKind.u32.bits = 32 := rfl
      omega
    have e4 : okS 8 b n = decide (b < 2 ^ n.toNat) := by
      unfold okS
      congr 1
      apply propext
      exact ⟨fun h => h.2.2, fun h' => ⟨h.1, by simpa using h.2, h'⟩⟩
    simp (maxSteps := 4000000) -dsimp [-List.all_eq_true, -Array.all_eq_true, -Bool.exists_bool, -Bool.forall_bool, and_assoc, List.zipIdx, Tryz.f20, withinC, h.1, h.2, e1, e2, e3, e4, shr_zero hb]
    intro _; omega
  · have e4 : okS 8 b n = false := by
      cases e : okS 8 b n
      · rfl
      · have := okS_iff.1 e; exact absurd ⟨this.1, by simpa using this.2.1⟩ h
    by_cases h0 : 0 ≤ n
    · have h1 : ¬ n ≤ 8 := fun h' => h ⟨h0, h'⟩
      simp (maxSteps := 4000000) -dsimp [-List.all_eq_true, -Array.all_eq_true, -Bool.exists_bool, -Bool.forall_bool, and_assoc, List.zipIdx, Tryz.f20, withinC, h0, h1, e4]
    · simp (maxSteps := 4000000) -dsimp [-List.all_eq_true, -Array.all_eq_true, -Bool.exists_bool, -Bool.forall_bool, and_assoc, List.zipIdx, Tryz.f20, withinC, h0, e4]
def forkOkC : Con Tryz.prog := Con.pure 20 Tryz.call20 (fun (i : ((Int) × (Int))) => match i with | (b, n) => [.agg #[.int .u8 b, .int .i64 n]]) (fun (i : ((Int) × (Int))) => match i with | (b, n) => 0 ≤ b ∧ b < 256) (fun (i : ((Int) × (Int))) => match i with | (b, n) => .bool (okS 8 b n)) fun i w hp => forkOkC_c i.1 i.2 hp w
theorem goodC_c (b n : Int) (hpre : 0 ≤ b ∧ b < 65536) (w : World) : Calls Tryz.prog 119 #[.agg #[.int .u16 b, .int .i64 n]] w fun e w' => e = .returned (.agg #[.int .u16 (goodS 16 b n).1, .int .i64 (goodS 16 b n).2]) ∧ RowKit.Below w.heap.size w w' := by
  refine (plain_of_vcs ⟨[bitOkC], []⟩ hmx Tryz.func119 rfl (by kernel_rfl) (args := [.agg #[.int .u16 b, .int .i64 n]]) (by simp [Tryz.ntmps119]) w (· = .agg #[.int .u16 (goodS 16 b n).1, .int .i64 (goodS 16 b n).2]) 400 ?_).mono fun e w' ⟨v, h1, h2, h3⟩ => ⟨h2 ▸ h1, h3⟩
  cases h : okS 16 b n
  · simp (maxSteps := 4000000) -dsimp [-List.all_eq_true, -Array.all_eq_true, -Bool.exists_bool, -Bool.forall_bool, and_assoc, List.zipIdx, Tryz.f119, bitOkC, h, goodS, hpre]
  · simp (maxSteps := 4000000) -dsimp [-List.all_eq_true, -Array.all_eq_true, -Bool.exists_bool, -Bool.forall_bool, and_assoc, List.zipIdx, Tryz.f119, bitOkC, h, goodS, hpre]
def goodC : Con Tryz.prog := Con.pure 119 Tryz.call119 (fun (i : ((Int) × (Int))) => match i with | (b, n) => [.agg #[.int .u16 b, .int .i64 n]]) (fun (i : ((Int) × (Int))) => match i with | (b, n) => 0 ≤ b ∧ b < 65536) (fun (i : ((Int) × (Int))) => match i with | (b, n) => .agg #[.int .u16 (goodS 16 b n).1, .int .i64 (goodS 16 b n).2]) fun i w hp => goodC_c i.1 i.2 hp w
theorem goodFC_c (b n : Int) (hpre : 0 ≤ b ∧ b < 256) (w : World) : Calls Tryz.prog 121 #[.agg #[.int .u8 b, .int .i64 n]] w fun e w' => e = .returned (.agg #[.int .u8 (goodS 8 b n).1, .int .i64 (goodS 8 b n).2]) ∧ RowKit.Below w.heap.size w w' := by
  refine (plain_of_vcs ⟨[forkOkC], []⟩ hmx Tryz.func121 rfl (by kernel_rfl) (args := [.agg #[.int .u8 b, .int .i64 n]]) (by simp [Tryz.ntmps121]) w (· = .agg #[.int .u8 (goodS 8 b n).1, .int .i64 (goodS 8 b n).2]) 400 ?_).mono fun e w' ⟨v, h1, h2, h3⟩ => ⟨h2 ▸ h1, h3⟩
  cases h : okS 8 b n
  · simp (maxSteps := 4000000) -dsimp [-List.all_eq_true, -Array.all_eq_true, -Bool.exists_bool, -Bool.forall_bool, and_assoc, List.zipIdx, Tryz.f121, forkOkC, h, goodS, hpre]
  · simp (maxSteps := 4000000) -dsimp [-List.all_eq_true, -Array.all_eq_true, -Bool.exists_bool, -Bool.forall_bool, and_assoc, List.zipIdx, Tryz.f121, forkOkC, h, goodS, hpre]
def goodFC : Con Tryz.prog := Con.pure 121 Tryz.call121 (fun (i : ((Int) × (Int))) => match i with | (b, n) => [.agg #[.int .u8 b, .int .i64 n]]) (fun (i : ((Int) × (Int))) => match i with | (b, n) => 0 ≤ b ∧ b < 256) (fun (i : ((Int) × (Int))) => match i with | (b, n) => .agg #[.int .u8 (goodS 8 b n).1, .int .i64 (goodS 8 b n).2]) fun i w hp => goodFC_c i.1 i.2 hp w
theorem bitPushC_c (b n : Int) (x : Bool) (hpre : 0 ≤ b ∧ b < 65536) (w : World) : Calls Tryz.prog 53 #[.agg #[.int .u16 b, .int .i64 n], .bool x] w fun e w' => e = .returned (.agg #[.int .u16 (pushS 16 (goodS 16 b n) x).1, .int .i64 (pushS 16 (goodS 16 b n) x).2]) ∧ RowKit.Below w.heap.size w w' := by
  refine (plain_of_vcs ⟨[goodC, bitC], []⟩ hmx Tryz.func53 rfl (by kernel_rfl) (args := [.agg #[.int .u16 b, .int .i64 n], .bool x]) (by simp [Tryz.ntmps53]) w (· = .agg #[.int .u16 (pushS 16 (goodS 16 b n) x).1, .int .i64 (pushS 16 (goodS 16 b n) x).2]) 400 ?_).mono fun e w' ⟨v, h1, h2, h3⟩ => ⟨h2 ▸ h1, h3⟩
  have hg := (gS_ok (s := (b, n)) hpre.1).bd
  unfold gS at hg
  simp only at hg
  generalize hgg : goodS 16 b n = g at *
  obtain ⟨y, k⟩ := g
  simp only at hg
  have e1 : IntKind.i64.wrap (k + 1) = k + 1 := wrap_i64 (by omega) (by omega)
  have e2 := push_u0 hg.1
  have e3 := push_u1 hg.1
  cases x
  · simp (maxSteps := 4000000) -dsimp [-List.all_eq_true, -Array.all_eq_true, -Bool.exists_bool, -Bool.forall_bool, and_assoc, List.zipIdx, Tryz.f53, goodC, bitC, hpre, hgg, e1, e2, e3, pushS, min_if]
  · simp (maxSteps := 4000000) -dsimp [-List.all_eq_true, -Array.all_eq_true, -Bool.exists_bool, -Bool.forall_bool, and_assoc, List.zipIdx, Tryz.f53, goodC, bitC, hpre, hgg, e1, e2, e3, pushS, min_if]
def bitPushC : Con Tryz.prog := Con.pure 53 Tryz.call53 (fun (i : ((Int) × (Int) × (Bool))) => match i with | (b, n, x) => [.agg #[.int .u16 b, .int .i64 n], .bool x]) (fun (i : ((Int) × (Int) × (Bool))) => match i with | (b, n, x) => 0 ≤ b ∧ b < 65536) (fun (i : ((Int) × (Int) × (Bool))) => match i with | (b, n, x) => .agg #[.int .u16 (pushS 16 (goodS 16 b n) x).1, .int .i64 (pushS 16 (goodS 16 b n) x).2]) fun i w hp => bitPushC_c i.1 i.2.1 i.2.2 hp w
theorem bitPopC_c (b n : Int) (hpre : 0 ≤ b ∧ b < 65536) (w : World) : Calls Tryz.prog 55 #[.agg #[.int .u16 b, .int .i64 n]] w fun e w' => e = .returned (.tuple #[.agg #[.int .u16 (popS (goodS 16 b n)).1, .int .i64 (popS (goodS 16 b n)).2], .bool (topS (goodS 16 b n))]) ∧ RowKit.Below w.heap.size w w' := by
  refine (plain_of_vcs ⟨[goodC], [(4, [(0, false), (1, false), (2, false), (3, false), (4, false), (5, false), (6, false), (7, false), (8, false), (9, false), (10, false), (11, false), (8, true), (12, false)])]⟩ hmx Tryz.func55 rfl (by kernel_rfl) (args := [.agg #[.int .u16 b, .int .i64 n]]) (by simp [Tryz.ntmps55]) w (· = .tuple #[.agg #[.int .u16 (popS (goodS 16 b n)).1, .int .i64 (popS (goodS 16 b n)).2], .bool (topS (goodS 16 b n))]) 400 ?_).mono fun e w' ⟨v, h1, h2, h3⟩ => ⟨h2 ▸ h1, h3⟩
  have hg := (gS_ok (s := (b, n)) hpre.1).bd
  unfold gS at hg
  simp only at hg
  generalize hgg : goodS 16 b n = g at *
  obtain ⟨y, k⟩ := g
  simp only at hg
  have e1 : IntKind.i64.wrap (k - 1) = k - 1 := wrap_i64 (by omega) (by omega)
  have e2 := pop_u hg.1
  have e3 := top_u ⟨hg.1, hg.2.1⟩
  by_cases hk : k = 0
  · simp (maxSteps := 4000000) -dsimp [-List.all_eq_true, -Array.all_eq_true, -Bool.exists_bool, -Bool.forall_bool, and_assoc, List.zipIdx, Tryz.f55, goodC, hpre, hgg, e1, popS, topS, hk]
  · simp (maxSteps := 4000000) -dsimp [-List.all_eq_true, -Array.all_eq_true, -Bool.exists_bool, -Bool.forall_bool, and_assoc, List.zipIdx, Tryz.f55, goodC, hpre, hgg, e1, e2, e3, popS, topS, hk]
def bitPopC : Con Tryz.prog := Con.pure 55 Tryz.call55 (fun (i : ((Int) × (Int))) => match i with | (b, n) => [.agg #[.int .u16 b, .int .i64 n]]) (fun (i : ((Int) × (Int))) => match i with | (b, n) => 0 ≤ b ∧ b < 65536) (fun (i : ((Int) × (Int))) => match i with | (b, n) => .tuple #[.agg #[.int .u16 (popS (goodS 16 b n)).1, .int .i64 (popS (goodS 16 b n)).2], .bool (topS (goodS 16 b n))]) fun i w hp => bitPopC_c i.1 i.2 hp w
theorem bitTopC_c (b n : Int) (hpre : 0 ≤ b ∧ b < 65536) (w : World) : Calls Tryz.prog 30 #[.agg #[.int .u16 b, .int .i64 n]] w fun e w' => e = .returned (.bool (topS (goodS 16 b n))) ∧ RowKit.Below w.heap.size w w' := by
  refine (plain_of_vcs ⟨[bitPopC], []⟩ hmx Tryz.func30 rfl (by kernel_rfl) (args := [.agg #[.int .u16 b, .int .i64 n]]) (by simp [Tryz.ntmps30]) w (· = .bool (topS (goodS 16 b n))) 400 ?_).mono fun e w' ⟨v, h1, h2, h3⟩ => ⟨h2 ▸ h1, h3⟩
  simp (maxSteps := 4000000) -dsimp [-List.all_eq_true, -Array.all_eq_true, -Bool.exists_bool, -Bool.forall_bool, and_assoc, List.zipIdx, Tryz.f30, bitPopC, hpre]
def bitTopC : Con Tryz.prog := Con.pure 30 Tryz.call30 (fun (i : ((Int) × (Int))) => match i with | (b, n) => [.agg #[.int .u16 b, .int .i64 n]]) (fun (i : ((Int) × (Int))) => match i with | (b, n) => 0 ≤ b ∧ b < 65536) (fun (i : ((Int) × (Int))) => match i with | (b, n) => .bool (topS (goodS 16 b n))) fun i w hp => bitTopC_c i.1 i.2 hp w
theorem forkPushC_c (b n : Int) (x : Bool) (hpre : 0 ≤ b ∧ b < 256) (w : World) : Calls Tryz.prog 56 #[.agg #[.int .u8 b, .int .i64 n], .bool x] w fun e w' => e = .returned (.agg #[.int .u8 (pushS 8 (goodS 8 b n) x).1, .int .i64 (pushS 8 (goodS 8 b n) x).2]) ∧ RowKit.Below w.heap.size w w' := by
  refine (plain_of_vcs ⟨[goodFC, bitC], []⟩ hmx Tryz.func56 rfl (by kernel_rfl) (args := [.agg #[.int .u8 b, .int .i64 n], .bool x]) (by simp [Tryz.ntmps56]) w (· = .agg #[.int .u8 (pushS 8 (goodS 8 b n) x).1, .int .i64 (pushS 8 (goodS 8 b n) x).2]) 400 ?_).mono fun e w' ⟨v, h1, h2, h3⟩ => ⟨h2 ▸ h1, h3⟩
  have hg := (gF_ok (s := (b, n)) hpre.1).bd
  unfold gF at hg
  simp only at hg
  generalize hgg : goodS 8 b n = g at *
  obtain ⟨y, k⟩ := g
  simp only at hg
  have e1 : IntKind.i64.wrap (k + 1) = k + 1 := wrap_i64 (by omega) (by omega)
  have e2 := push_u80 hg.1
  have e3 := push_u81 hg.1
  have e4 : IntKind.u8.wrap 0 = 0 := rfl
  have e5 : IntKind.u8.wrap 1 = 1 := rfl
  cases x
  · simp (maxSteps := 4000000) -dsimp [-List.all_eq_true, -Array.all_eq_true, -Bool.exists_bool, -Bool.forall_bool, and_assoc, List.zipIdx, Tryz.f56, goodFC, bitC, hpre, hgg, e1, e2, e3, e4, e5, pushS, min_if]
  · simp (maxSteps := 4000000) -dsimp [-List.all_eq_true, -Array.all_eq_true, -Bool.exists_bool, -Bool.forall_bool, and_assoc, List.zipIdx, Tryz.f56, goodFC, bitC, hpre, hgg, e1, e2, e3, e4, e5, pushS, min_if]
def forkPushC : Con Tryz.prog := Con.pure 56 Tryz.call56 (fun (i : ((Int) × (Int) × (Bool))) => match i with | (b, n, x) => [.agg #[.int .u8 b, .int .i64 n], .bool x]) (fun (i : ((Int) × (Int) × (Bool))) => match i with | (b, n, x) => 0 ≤ b ∧ b < 256) (fun (i : ((Int) × (Int) × (Bool))) => match i with | (b, n, x) => .agg #[.int .u8 (pushS 8 (goodS 8 b n) x).1, .int .i64 (pushS 8 (goodS 8 b n) x).2]) fun i w hp => forkPushC_c i.1 i.2.1 i.2.2 hp w
theorem forkPopC_c (b n : Int) (hpre : 0 ≤ b ∧ b < 256) (w : World) : Calls Tryz.prog 58 #[.agg #[.int .u8 b, .int .i64 n]] w fun e w' => e = .returned (.tuple #[.agg #[.int .u8 (popS (goodS 8 b n)).1, .int .i64 (popS (goodS 8 b n)).2], .bool (topS (goodS 8 b n))]) ∧ RowKit.Below w.heap.size w w' := by
  refine (plain_of_vcs ⟨[goodFC], [(4, [(0, false), (1, false), (2, false), (3, false), (4, false), (5, false), (6, false), (7, false), (8, false), (9, false), (10, false), (11, false), (8, true), (12, false)])]⟩ hmx Tryz.func58 rfl (by kernel_rfl) (args := [.agg #[.int .u8 b, .int .i64 n]]) (by simp [Tryz.ntmps58]) w (· = .tuple #[.agg #[.int .u8 (popS (goodS 8 b n)).1, .int .i64 (popS (goodS 8 b n)).2], .bool (topS (goodS 8 b n))]) 400 ?_).mono fun e w' ⟨v, h1, h2, h3⟩ => ⟨h2 ▸ h1, h3⟩
  have hg := (gF_ok (s := (b, n)) hpre.1).bd
  unfold gF at hg
  simp only at hg
  generalize hgg : goodS 8 b n = g at *
  obtain ⟨y, k⟩ := g
  simp only at hg
  have e1 : IntKind.i64.wrap (k - 1) = k - 1 := wrap_i64 (by omega) (by omega)
  have e2 := pop_u8 hg.1
  have e3 := top_u8 ⟨hg.1, hg.2.1⟩
  by_cases hk : k = 0
  · simp (maxSteps := 4000000) -dsimp [-List.all_eq_true, -Array.all_eq_true, -Bool.exists_bool, -Bool.forall_bool, and_assoc, List.zipIdx, Tryz.f58, goodFC, hpre, hgg, e1, popS, topS, hk]
  · simp (maxSteps := 4000000) -dsimp [-List.all_eq_true, -Array.all_eq_true, -Bool.exists_bool, -Bool.forall_bool, and_assoc, List.zipIdx, Tryz.f58, goodFC, hpre, hgg, e1, e2, e3, popS, topS, hk]
def forkPopC : Con Tryz.prog := Con.pure 58 Tryz.call58 (fun (i : ((Int) × (Int))) => match i with | (b, n) => [.agg #[.int .u8 b, .int .i64 n]]) (fun (i : ((Int) × (Int))) => match i with | (b, n) => 0 ≤ b ∧ b < 256) (fun (i : ((Int) × (Int))) => match i with | (b, n) => .tuple #[.agg #[.int .u8 (popS (goodS 8 b n)).1, .int .i64 (popS (goodS 8 b n)).2], .bool (topS (goodS 8 b n))]) fun i w hp => forkPopC_c i.1 i.2 hp w
theorem forkTopC_c (b n : Int) (hpre : 0 ≤ b ∧ b < 256) (w : World) : Calls Tryz.prog 57 #[.agg #[.int .u8 b, .int .i64 n]] w fun e w' => e = .returned (.bool (topS (goodS 8 b n))) ∧ RowKit.Below w.heap.size w w' := by
  refine (plain_of_vcs ⟨[forkPopC], []⟩ hmx Tryz.func57 rfl (by kernel_rfl) (args := [.agg #[.int .u8 b, .int .i64 n]]) (by simp [Tryz.ntmps57]) w (· = .bool (topS (goodS 8 b n))) 400 ?_).mono fun e w' ⟨v, h1, h2, h3⟩ => ⟨h2 ▸ h1, h3⟩
  simp (maxSteps := 4000000) -dsimp [-List.all_eq_true, -Array.all_eq_true, -Bool.exists_bool, -Bool.forall_bool, and_assoc, List.zipIdx, Tryz.f57, forkPopC, hpre]
def forkTopC : Con Tryz.prog := Con.pure 57 Tryz.call57 (fun (i : ((Int) × (Int))) => match i with | (b, n) => [.agg #[.int .u8 b, .int .i64 n]]) (fun (i : ((Int) × (Int))) => match i with | (b, n) => 0 ≤ b ∧ b < 256) (fun (i : ((Int) × (Int))) => match i with | (b, n) => .bool (topS (goodS 8 b n))) fun i w hp => forkTopC_c i.1 i.2 hp w
theorem bitTurnC_c (b n : Int) (x : Bool) (hpre : 0 ≤ b ∧ b < 65536) (w : World) : Calls Tryz.prog 54 #[.agg #[.int .u16 b, .int .i64 n], .bool x] w fun e w' => e = .returned (.agg #[.int .u16 (turnS (goodS 16 b n) x).1, .int .i64 (turnS (goodS 16 b n) x).2]) ∧ RowKit.Below w.heap.size w w' := by
  refine (plain_of_vcs ⟨[goodC, bitC], []⟩ hmx Tryz.func54 rfl (by kernel_rfl) (args := [.agg #[.int .u16 b, .int .i64 n], .bool x]) (by simp [Tryz.ntmps54]) w (· = .agg #[.int .u16 (turnS (goodS 16 b n) x).1, .int .i64 (turnS (goodS 16 b n) x).2]) 400 ?_).mono fun e w' ⟨v, h1, h2, h3⟩ => ⟨h2 ▸ h1, h3⟩
  have hg := (gS_ok (s := (b, n)) hpre.1).bd
  unfold gS at hg
  simp only at hg
  generalize hgg : goodS 16 b n = g at *
  obtain ⟨y, k⟩ := g
  simp only at hg
  by_cases hk : k = 0
  · simp (maxSteps := 4000000) -dsimp [-List.all_eq_true, -Array.all_eq_true, -Bool.exists_bool, -Bool.forall_bool, and_assoc, List.zipIdx, Tryz.f54, goodC, bitC, hpre, hgg, turnS, hk]
  · have e1 := turn_u0 ⟨hg.1, hg.2.1⟩
    have e2 := turn_u1 ⟨hg.1, hg.2.1⟩
    cases x
    · simp (maxSteps := 4000000) -dsimp [-List.all_eq_true, -Array.all_eq_true, -Bool.exists_bool, -Bool.forall_bool, and_assoc, List.zipIdx, Tryz.f54, goodC, bitC, hpre, hgg, turnS, hk, e1, e2]
    · simp (maxSteps := 4000000) -dsimp [-List.all_eq_true, -Array.all_eq_true, -Bool.exists_bool, -Bool.forall_bool, and_assoc, List.zipIdx, Tryz.f54, goodC, bitC, hpre, hgg, turnS, hk, e1, e2]
def bitTurnC : Con Tryz.prog := Con.pure 54 Tryz.call54 (fun (i : ((Int) × (Int) × (Bool))) => match i with | (b, n, x) => [.agg #[.int .u16 b, .int .i64 n], .bool x]) (fun (i : ((Int) × (Int) × (Bool))) => match i with | (b, n, x) => 0 ≤ b ∧ b < 65536) (fun (i : ((Int) × (Int) × (Bool))) => match i with | (b, n, x) => .agg #[.int .u16 (turnS (goodS 16 b n) x).1, .int .i64 (turnS (goodS 16 b n) x).2]) fun i w hp => bitTurnC_c i.1 i.2.1 i.2.2 hp w
end Go.Proofs.YtfhnbdlkiemaeaaGreat
namespace Go.Proofs.YtfhnbdlkiemaeaaGreat
open Go Go.Sx
attribute [local simp] Go.Sx.vcsE1 Go.Sx.vcsE2 Go.Sx.vcsE3 Go.Sx.vcsE4 Go.Sx.vcsE5 Go.Sx.vcsE6 Go.Sx.vcsE7 Go.Sx.vcsE8 Go.Sx.vcsE9 Go.Sx.vcsE10 Go.Sx.vcsE11 Go.Sx.vcsE12 Go.Sx.vcsE13 Go.Sx.vcsE14 Go.Sx.vcsE15 Go.Sx.vcsE16 Go.Sx.vcsE17 Go.Sx.vcsE18 Go.Sx.vcsE19 Go.Sx.get Go.Sx.look Go.Sx.put Go.Sx.pureFn Go.Sx.findOrd Go.Sx.unF Go.Sx.dstOk Go.Sx.isFloatT Go.Sx.endVC Go.Sx.resFn Go.Sx.packC Go.Sx.newFn Go.Sx.storeFn Go.Sx.buildFn Go.Sx.known Go.Sx.aggT Go.Sx.cellsC Go.Sx.findCon Go.Sx.allV Go.Sx.partsV Go.Sx.partsC Go.Sx.fillL Go.Sx.exitTo Go.Sx.fAr Go.Sx.eqFn Go.Sx.eqFieldsFn Go.Sx.eqElemsFn Go.Sx.partFn Go.Sx.sliceFn Go.Sx.boundFn Go.Sx.AppV Go.Sx.CopyV Go.Sx.MakeSliceV Go.Sx.NewsV Go.Sx.GrowV Go.Sx.TextV Go.Sx.bytesL Go.Sx.notInt Go.Sx.typeAt Go.Sx.argAt Go.Sx.den Go.undef Go.Value.cells Go.Value.oneCell' Go.Sx.Con.pure Go.Sx.Con.some Go.Sx.Con.read Go.Sx.Con.make Go.Sx.Con.ext Go.Sx.Con.rel Go.Sx.Con.extS Go.Sx.Con.draw Go.Sx.Con.step Go.Sx.C.one Go.Sx.Draws.steps

def boolC (l : List Bool) : List C := l.map fun x => .v (.bool x)
def RdBo (F : Facts) (o : Option Addr) (l : List Bool) : Prop := RdO F 1 o (l.map fun x => [Value.bool x])
theorem RdBo.mono {F G : Facts} {o : Option Addr} {l : List Bool} (h : RdBo F o l) (hs : Sub F G) : RdBo G o l := RdO.mono h hs
theorem RdBo.uniq {F : Facts} {o o' : Option Addr} {l l' : List Bool} (h : RdBo F o l) (h' : RdBo F o' l') (ho : o = o') (hl : l.length = l'.length) : l = l' := by
  subst ho
  have := RdO.uniq h h' (by simpa using hl)
  have h2 := congrArg (List.map fun r : List Value => match r with | [Value.bool x] => x | _ => false) this
  simpa [Function.comp_def] using h2
theorem RdBo.there {F : Facts} {o : Option Addr} {l : List Bool} (h : RdBo F o l) {i : Nat} (hi : i < l.length) : o.isSome = true := by
  obtain ⟨_, a, rfl, _⟩ := h i [Value.bool l[i]] (by simp [hi]); rfl
theorem RdBo.ld {P : Program} {d : Nat} {cx : Cx} {mem : List Blk} {o : Option Addr} {l : List Bool} (h : RdBo (factF cx) o l) {t : TypeId} (ht : aggT P t = some false) {i : Nat} {x : Bool} (hx : l[i]? = some x) {K : Value → Prop} : LoadV d P cx mem t (padd o i) K = K (.bool x) := by
  have hr : (l.map fun x => [Value.bool x])[i]? = some [.bool x] := by simp [hx]
  have := RdO.ld_zero (d := d) (RdO.mono h (sub_now cx mem)) ht hr (K := K) rfl
  simpa using this
structure IsBools (F : Facts) (v : Value) (l : List Bool) : Prop where
  ex : ∃ o cap, v = .slice o l.length cap ∧ RdBo F o l ∧ l.length ≤ cap ∧ cap ≤ maxLen
theorem IsBools.mono {F G : Facts} {v : Value} {l : List Bool} (h : IsBools F v l) (hs : Sub F G) : IsBools G v l := by
  obtain ⟨o, cap, h1, h2, h3⟩ := h.ex
  exact ⟨o, cap, h1, h2.mono hs, h3⟩
end Go.Proofs.YtfhnbdlkiemaeaaGreat
namespace Go.Proofs.YtfhnbdlkiemaeaaGreat
open Go Go.Sx
attribute [local simp] Go.Sx.vcsE1 Go.Sx.vcsE2 Go.Sx.vcsE3 Go.Sx.vcsE4 Go.Sx.vcsE5 Go.Sx.vcsE6 Go.Sx.vcsE7 Go.Sx.vcsE8 Go.Sx.vcsE9 Go.Sx.vcsE10 Go.Sx.vcsE11 Go.Sx.vcsE12 Go.Sx.vcsE13 Go.Sx.vcsE14 Go.Sx.vcsE15 Go.Sx.vcsE16 Go.Sx.vcsE17 Go.Sx.vcsE18 Go.Sx.vcsE19 Go.Sx.get Go.Sx.look Go.Sx.put Go.Sx.pureFn Go.Sx.findOrd Go.Sx.unF Go.Sx.dstOk Go.Sx.isFloatT Go.Sx.endVC Go.Sx.resFn Go.Sx.packC Go.Sx.newFn Go.Sx.storeFn Go.Sx.buildFn Go.Sx.known Go.Sx.aggT Go.Sx.cellsC Go.Sx.findCon Go.Sx.allV Go.Sx.partsV Go.Sx.partsC Go.Sx.fillL Go.Sx.exitTo Go.Sx.fAr Go.Sx.eqFn Go.Sx.eqFieldsFn Go.Sx.eqElemsFn Go.Sx.partFn Go.Sx.sliceFn Go.Sx.boundFn Go.Sx.AppV Go.Sx.CopyV Go.Sx.MakeSliceV Go.Sx.NewsV Go.Sx.GrowV Go.Sx.TextV Go.Sx.bytesL Go.Sx.notInt Go.Sx.typeAt Go.Sx.argAt Go.Sx.den Go.undef Go.Value.cells Go.Value.oneCell' Go.Sx.Con.pure Go.Sx.Con.some Go.Sx.Con.read Go.Sx.Con.make Go.Sx.Con.ext Go.Sx.Con.rel Go.Sx.Con.extS Go.Sx.Con.draw Go.Sx.Con.step Go.Sx.C.one Go.Sx.Draws.steps

end Go.Proofs.YtfhnbdlkiemaeaaGreat
namespace Go.Proofs.YtfhnbdlkiemaeaaGreat
open Go Go.Sx
attribute [local simp] Go.Sx.vcsE1 Go.Sx.vcsE2 Go.Sx.vcsE3 Go.Sx.vcsE4 Go.Sx.vcsE5 Go.Sx.vcsE6 Go.Sx.vcsE7 Go.Sx.vcsE8 Go.Sx.vcsE9 Go.Sx.vcsE10 Go.Sx.vcsE11 Go.Sx.vcsE12 Go.Sx.vcsE13 Go.Sx.vcsE14 Go.Sx.vcsE15 Go.Sx.vcsE16 Go.Sx.vcsE17 Go.Sx.vcsE18 Go.Sx.vcsE19 Go.Sx.get Go.Sx.look Go.Sx.put Go.Sx.pureFn Go.Sx.findOrd Go.Sx.unF Go.Sx.dstOk Go.Sx.isFloatT Go.Sx.endVC Go.Sx.resFn Go.Sx.packC Go.Sx.newFn Go.Sx.storeFn Go.Sx.buildFn Go.Sx.known Go.Sx.aggT Go.Sx.cellsC Go.Sx.findCon Go.Sx.allV Go.Sx.partsV Go.Sx.partsC Go.Sx.fillL Go.Sx.exitTo Go.Sx.fAr Go.Sx.eqFn Go.Sx.eqFieldsFn Go.Sx.eqElemsFn Go.Sx.partFn Go.Sx.sliceFn Go.Sx.boundFn Go.Sx.AppV Go.Sx.CopyV Go.Sx.MakeSliceV Go.Sx.NewsV Go.Sx.GrowV Go.Sx.TextV Go.Sx.bytesL Go.Sx.notInt Go.Sx.typeAt Go.Sx.argAt Go.Sx.den Go.undef Go.Value.cells Go.Value.oneCell' Go.Sx.Con.pure Go.Sx.Con.some Go.Sx.Con.read Go.Sx.Con.make Go.Sx.Con.ext Go.Sx.Con.rel Go.Sx.Con.extS Go.Sx.Con.draw Go.Sx.Con.step Go.Sx.C.one Go.Sx.Draws.steps

def StackV (d : Nat) (cx : Cx) (args : List C) (mem : List Blk) (K : Cx → C → List Blk → Prop) (_u : Tag K := ⟨⟩) : Prop :=
  ∃ (k bid cap : Nat) (l : List Bool) (pad : List C), args = [.s k bid 0 l.length cap] ∧ mem[k]? = some ⟨bid, boolC l ++ pad, 4⟩ ∧ l.length ≤ 100 ∧
    ∀ cx', Le cx cx' → K cx' (.v (.agg #[.int .u16 (stackS 16 l).1, .int .i64 (stackS 16 l).2])) mem
@[congr] theorem StackV_congr {d d' : Nat} {cx : Cx} {args args' : List C} {mem mem' : List Blk} {K : Cx → C → List Blk → Prop} (h' : d = d') (h : args = args') (hm : mem = mem') :
    StackV d cx args mem K = StackV d' cx args' mem' K := by rw [h, hm]; rfl
end Go.Proofs.YtfhnbdlkiemaeaaGreat
