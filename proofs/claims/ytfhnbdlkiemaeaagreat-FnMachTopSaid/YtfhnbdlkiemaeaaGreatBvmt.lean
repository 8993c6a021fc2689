/-
  Contracts: packed stacks, by the reference.
-/
import Derived.Test.YtfhnbdlkiemaeaaGreatAmt
import Derived.Test.YtfhnbdlkiemaeaaGreatMcmt
import Derived.Test.YtfhnbdlkiemaeaaGreatSwmt
import Derived.Test.YtfhnbdlkiemaeaaGreatImt
set_option linter.unusedVariables false
set_option linter.unusedSimpArgs false
set_option maxRecDepth 100000
set_option maxHeartbeats 4000000
namespace Go.Proofs.YtfhnbdlkiemaeaaGreat
open Go Go.Sx
open List renaming all_eq_true → Y1, zipIdx → Y5
open Bool renaming exists_bool → Y3, forall_bool → Y4
attribute [local simp] Sx.vcsE1 Sx.vcsE2 Sx.vcsE3 Sx.vcsE4 Sx.vcsE5 Sx.vcsE6 Sx.vcsE7 Sx.vcsE8 Sx.vcsE9 Sx.vcsE10 Sx.vcsE11 Sx.vcsE12 Sx.vcsE13 Sx.vcsE14 Sx.vcsE15 Sx.vcsE16 Sx.vcsE17 Sx.vcsE18 Sx.vcsE19 Sx.get Sx.look Sx.put Sx.pureFn Sx.findOrd Sx.unF Sx.dstOk Sx.isFloatT Sx.endVC Sx.resFn Sx.packC Sx.newFn Sx.storeFn Sx.buildFn Sx.known Sx.aggT Sx.cellsC Sx.findCon Sx.allV Sx.partsV Sx.partsC Sx.fillL Sx.exitTo Sx.fAr Sx.eqFn Sx.eqFieldsFn Sx.eqElemsFn Sx.partFn Sx.sliceFn Sx.boundFn Sx.AppV Sx.CopyV Sx.MakeSliceV Sx.NewsV Sx.GrowV Sx.TextV Sx.bytesL Sx.notInt Sx.typeAt Sx.argAt Sx.den Go.undef Go.Value.cells Go.Value.oneCell' Sx.Con.pure Sx.Con.some Sx.Con.read Sx.Con.make Sx.Con.ext Sx.Con.rel Sx.Con.extS Sx.Con.draw Sx.Con.step Sx.C.one Sx.Draws.steps

theorem shr_zero {b : Int} {k : Nat} (h : 0 ≤ b) : (b.fdiv (2 ^ k) == 0) = decide (b < 2 ^ k) := by
  have hp := pow_pos2 k
  rw [Int.fdiv_eq_ediv_of_nonneg _ (by omega), Bool.eq_iff_iff]
  simp only [beq_iff_eq, decide_eq_true_eq]
  constructor
  · intro h0
    by_cases hb : b < 2 ^ k
    · exact hb
    · have := (Int.le_ediv_iff_mul_le hp (a := 1) (b := b)).2 (by omega)
      omega
  · exact fun hb => Int.ediv_eq_zero_of_lt h hb
theorem even_or {z : Int} (h : 0 ≤ z ∧ z < 65536) (he : z % 2 = 0) : (((z % 65536).toNat ||| 1 : Nat) : Int) = z + 1 := by
  have hz : z % 65536 = z := Int.emod_eq_of_lt h.1 h.2
  rw [hz]
  obtain ⟨a, ha⟩ : ∃ a : Nat, z = 2 * a := ⟨(z / 2).toNat, by omega⟩
  have e : z.toNat = 2 ^ 1 * a := by omega
  rw [e, ← Nat.two_pow_add_eq_or_of_lt (by decide : 1 < 2 ^ 1)]
  push_cast
  omega
theorem shl_u16 {y : Int} : IntKind.u16.wrap (y * 2 ^ min 1 IntKind.u16.bits) = (2 * y) % 65536 := by
  have e : min 1 IntKind.u16.bits = 1 := rfl
  rw [e]
  simp only [IntKind.wrap, IntKind.signed, IntKind.bits]
  simp
  omega
theorem push_u0 {y : Int} (h : 0 ≤ y) : IntKind.u16.wrap (max (IntKind.u16.wrap (y * 2 ^ min 1 IntKind.u16.bits) % 2 ^ IntKind.u16.bits) 0) = (2 * y + b2i false) % 65536 := by
  rw [shl_u16]
  have e : (2 : Int) ^ IntKind.u16.bits = 65536 := rfl
  have eb : b2i false = 0 := rfl
  rw [e, eb]
  rw [wrap_u16 (by omega) (by omega)]
  omega
theorem push_u1 {y : Int} (h : 0 ≤ y) : IntKind.u16.wrap (((IntKind.u16.wrap (y * 2 ^ min 1 IntKind.u16.bits) % 2 ^ IntKind.u16.bits).toNat ||| ((1 : Int) % 2 ^ IntKind.u16.bits).toNat : Nat) : Int) = (2 * y + b2i true) % 65536 := by
  rw [shl_u16]
  have e : (2 : Int) ^ IntKind.u16.bits = 65536 := rfl
  have eb : b2i true = 1 := rfl
  have e1 : ((1 : Int) % 65536).toNat = 1 := rfl
  rw [e, eb, e1, even_or (by omega) (by omega), wrap_u16 (by omega) (by omega)]
  omega
theorem pop_u {y : Int} (h : 0 ≤ y) : y.fdiv (2 ^ min 1 IntKind.u16.bits) = y / 2 := by
  have e : min 1 IntKind.u16.bits = 1 := rfl
  rw [e, Int.fdiv_eq_ediv_of_nonneg _ (by decide)]
  rfl
theorem top_u {y : Int} (h : 0 ≤ y ∧ y < 65536) : (IntKind.u16.wrap (((y % 2 ^ IntKind.u16.bits).toNat &&& 1 % 2 ^ IntKind.u16.bits : Nat) : Int) == 1) = decide (y % 2 = 1) := by
  have e : (2 : Int) ^ IntKind.u16.bits = 65536 := rfl
  have e2 : 1 % 2 ^ IntKind.u16.bits = 1 := rfl
  rw [e, e2, Nat.and_one_is_mod, Int.emod_eq_of_lt h.1 h.2, wrap_u16 (by omega) (by omega), Bool.eq_iff_iff]
  simp only [beq_iff_eq, decide_eq_true_eq]
  omega
theorem even_or8 {z : Int} (h : 0 ≤ z ∧ z < 256) (he : z % 2 = 0) : (((z % 256).toNat ||| 1 : Nat) : Int) = z + 1 := by
  have hz : z % 256 = z := Int.emod_eq_of_lt h.1 h.2
  rw [hz]
  obtain ⟨a, ha⟩ : ∃ a : Nat, z = 2 * a := ⟨(z / 2).toNat, by omega⟩
  have e : z.toNat = 2 ^ 1 * a := by omega
  rw [e, ← Nat.two_pow_add_eq_or_of_lt (by decide : 1 < 2 ^ 1)]
  push_cast
  omega
theorem shl_u8 {y : Int} : IntKind.u8.wrap (y * 2 ^ min 1 IntKind.u8.bits) = (2 * y) % 256 := by
  have e : min 1 IntKind.u8.bits = 1 := rfl
  rw [e]
  simp only [IntKind.wrap, IntKind.signed, IntKind.bits]
  simp
  omega
theorem push_u80 {y : Int} (h : 0 ≤ y) : IntKind.u8.wrap (max (IntKind.u8.wrap (y * 2 ^ min 1 IntKind.u8.bits) % 2 ^ IntKind.u8.bits) 0) = (2 * y + b2i false) % 256 := by
  rw [shl_u8]
  have e : (2 : Int) ^ IntKind.u8.bits = 256 := rfl
  have eb : b2i false = 0 := rfl
  rw [e, eb]
  rw [wrap_u8 (by omega) (by omega)]
  omega
theorem push_u81 {y : Int} (h : 0 ≤ y) : IntKind.u8.wrap (((IntKind.u8.wrap (y * 2 ^ min 1 IntKind.u8.bits) % 2 ^ IntKind.u8.bits).toNat ||| ((1 : Int) % 2 ^ IntKind.u8.bits).toNat : Nat) : Int) = (2 * y + b2i true) % 256 := by
  rw [shl_u8]
  have e : (2 : Int) ^ IntKind.u8.bits = 256 := rfl
  have eb : b2i true = 1 := rfl
  have e1 : ((1 : Int) % 256).toNat = 1 := rfl
  rw [e, eb, e1, even_or8 (by omega) (by omega), wrap_u8 (by omega) (by omega)]
  omega
theorem pop_u8 {y : Int} (h : 0 ≤ y) : y.fdiv (2 ^ min 1 IntKind.u8.bits) = y / 2 := by
  have e : min 1 IntKind.u8.bits = 1 := rfl
  rw [e, Int.fdiv_eq_ediv_of_nonneg _ (by decide)]
  rfl
theorem top_u8 {y : Int} (h : 0 ≤ y ∧ y < 256) : (IntKind.u8.wrap (((y % 2 ^ IntKind.u8.bits).toNat &&& 1 % 2 ^ IntKind.u8.bits : Nat) : Int) == 1) = decide (y % 2 = 1) := by
  have e : (2 : Int) ^ IntKind.u8.bits = 256 := rfl
  have e2 : 1 % 2 ^ IntKind.u8.bits = 1 := rfl
  rw [e, e2, Nat.and_one_is_mod, Int.emod_eq_of_lt h.1 h.2, wrap_u8 (by omega) (by omega), Bool.eq_iff_iff]
  simp only [beq_iff_eq, decide_eq_true_eq]
  omega
theorem and_u1 {y : Int} (h : 0 ≤ y ∧ y < 65536) : IntKind.u16.wrap (((y % 2 ^ IntKind.u16.bits).toNat &&& 2 ^ IntKind.u16.bits - 1 - 1 % 2 ^ IntKind.u16.bits : Nat) : Int) = 2 * (y / 2) := by
  have e : (2 : Int) ^ IntKind.u16.bits = 65536 := rfl
  have e2 : 2 ^ IntKind.u16.bits - 1 - 1 % 2 ^ IntKind.u16.bits = 2 ^ 16 - 1 - 2 ^ 0 := rfl
  have hn := nat_put y.toNat 16 0 0 (by omega) (by decide) (by decide)
  simp only [Nat.zero_mul, Nat.or_zero, Nat.pow_zero, Nat.div_one, Nat.mul_one, Nat.add_zero] at hn
  rw [e, e2, Int.emod_eq_of_lt h.1 h.2, Nat.pow_zero, hn, wrap_u16 (by omega) (by omega)]
  omega
theorem turn_u0 {y : Int} (h : 0 ≤ y ∧ y < 65536) : IntKind.u16.wrap (max (IntKind.u16.wrap (((y % 2 ^ IntKind.u16.bits).toNat &&& 2 ^ IntKind.u16.bits - 1 - 1 % 2 ^ IntKind.u16.bits : Nat) : Int) % 2 ^ IntKind.u16.bits) 0) = 2 * (y / 2) + b2i false := by
  have e : (2 : Int) ^ IntKind.u16.bits = 65536 := rfl
  have eb : b2i false = 0 := rfl
  rw [and_u1 h, e, eb, wrap_u16 (by omega) (by omega)]
  omega
theorem turn_u1 {y : Int} (h : 0 ≤ y ∧ y < 65536) : IntKind.u16.wrap (((IntKind.u16.wrap (((y % 2 ^ IntKind.u16.bits).toNat &&& 2 ^ IntKind.u16.bits - 1 - 1 % 2 ^ IntKind.u16.bits : Nat) : Int) % 2 ^ IntKind.u16.bits).toNat ||| ((1 : Int) % 2 ^ IntKind.u16.bits).toNat : Nat) : Int) = 2 * (y / 2) + b2i true := by
  have e : (2 : Int) ^ IntKind.u16.bits = 65536 := rfl
  have eb : b2i true = 1 := rfl
  have e1 : ((1 : Int) % 65536).toNat = 1 := rfl
  rw [and_u1 h, e, eb, e1, even_or (by omega) (by omega), wrap_u16 (by omega) (by omega)]
theorem min_if (k m : Int) : (if m < k then m else k) = min k m := by omega
theorem bitOkC_c (b n : Int) (hpre : 0 ≤ b ∧ b < 65536) (w : World) : Calls Tryz.prog 19 #[.agg #[.int .u16 b, .int .i64 n]] w fun e w' => e = .returned (.bool (okS 16 b n)) ∧ RowKit.Below w.heap.size w w' := by
  refine (plain_of_vcs ⟨[withinC], []⟩ hmx Tryz.func19 rfl (by kernel_rfl) (args := [.agg #[.int .u16 b, .int .i64 n]]) (by simp [Tryz.ntmps19]) w (· = .bool (okS 16 b n)) 400 ?_).mono fun e w' ⟨v, h1, h2, h3⟩ => ⟨h2 ▸ h1, h3⟩
  obtain ⟨hb, hb2⟩ := hpre
  by_cases h : 0 ≤ n ∧ n ≤ 16
  · have e1 : IntKind.u32.wrap b = b := wrap_u32 hb (by omega)
    have e2 : IntKind.u64.wrap n = n := wrap_u64 h.1 (by omega)
    have e3 : min n.toNat IntKind.u32.bits = n.toNat := by
      have : IntKind.u32.bits = 32 := rfl
      omega
    have e4 : okS 16 b n = decide (b < 2 ^ n.toNat) := by
      unfold okS
      congr 1
      apply propext
      exact ⟨fun h => h.2.2, fun h' => ⟨h.1, by simpa using h.2, h'⟩⟩
    simp (maxSteps := 4000000) -dsimp [-Y1, -Array.all_eq_true, -Y3, -Y4, and_assoc, Y5, Tryz.f19, withinC, h.1, h.2, e1, e2, e3, e4, shr_zero hb]
    intro _; omega
  · have e4 : okS 16 b n = false := by
      cases e : okS 16 b n
      · rfl
      · have := okS_iff.1 e; exact absurd ⟨this.1, by simpa using this.2.1⟩ h
    by_cases h0 : 0 ≤ n
    · have h1 : ¬ n ≤ 16 := fun h' => h ⟨h0, h'⟩
      simp (maxSteps := 4000000) -dsimp [-Y1, -Array.all_eq_true, -Y3, -Y4, and_assoc, Y5, Tryz.f19, withinC, h0, h1, e4]
    · simp (maxSteps := 4000000) -dsimp [-Y1, -Array.all_eq_true, -Y3, -Y4, and_assoc, Y5, Tryz.f19, withinC, h0, e4]
def bitOkC : Con Tryz.prog := Con.pure 19 Tryz.call19 (fun (i : ((Int) × (Int))) => match i with | (b, n) => [.agg #[.int .u16 b, .int .i64 n]]) (fun (i : ((Int) × (Int))) => match i with | (b, n) => 0 ≤ b ∧ b < 65536) (fun (i : ((Int) × (Int))) => match i with | (b, n) => .bool (okS 16 b n)) fun i w hp => bitOkC_c i.1 i.2 hp w
theorem forkOkC_c (b n : Int) (hpre : 0 ≤ b ∧ b < 256) (w : World) : Calls Tryz.prog 20 #[.agg #[.int .u8 b, .int .i64 n]] w fun e w' => e = .returned (.bool (okS 8 b n)) ∧ RowKit.Below w.heap.size w w' := by
  refine (plain_of_vcs ⟨[withinC], []⟩ hmx Tryz.func20 rfl (by kernel_rfl) (args := [.agg #[.int .u8 b, .int .i64 n]]) (by simp [Tryz.ntmps20]) w (· = .bool (okS 8 b n)) 400 ?_).mono fun e w' ⟨v, h1, h2, h3⟩ => ⟨h2 ▸ h1, h3⟩
  obtain ⟨hb, hb2⟩ := hpre
  by_cases h : 0 ≤ n ∧ n ≤ 8
  · have e1 : IntKind.u32.wrap b = b := wrap_u32 hb (by omega)
    have e2 : IntKind.u64.wrap n = n := wrap_u64 h.1 (by omega)
    have e3 : min n.toNat IntKind.u32.bits = n.toNat := by
      have : IntKind.u32.bits = 32 := rfl
      omega
    have e4 : okS 8 b n = decide (b < 2 ^ n.toNat) := by
      unfold okS
      congr 1
      apply propext
      exact ⟨fun h => h.2.2, fun h' => ⟨h.1, by simpa using h.2, h'⟩⟩
    simp (maxSteps := 4000000) -dsimp [-Y1, -Array.all_eq_true, -Y3, -Y4, and_assoc, Y5, Tryz.f20, withinC, h.1, h.2, e1, e2, e3, e4, shr_zero hb]
    intro _; omega
  · have e4 : okS 8 b n = false := by
      cases e : okS 8 b n
      · rfl
      · have := okS_iff.1 e; exact absurd ⟨this.1, by simpa using this.2.1⟩ h
    by_cases h0 : 0 ≤ n
    · have h1 : ¬ n ≤ 8 := fun h' => h ⟨h0, h'⟩
      simp (maxSteps := 4000000) -dsimp [-Y1, -Array.all_eq_true, -Y3, -Y4, and_assoc, Y5, Tryz.f20, withinC, h0, h1, e4]
    · simp (maxSteps := 4000000) -dsimp [-Y1, -Array.all_eq_true, -Y3, -Y4, and_assoc, Y5, Tryz.f20, withinC, h0, e4]
def forkOkC : Con Tryz.prog := Con.pure 20 Tryz.call20 (fun (i : ((Int) × (Int))) => match i with | (b, n) => [.agg #[.int .u8 b, .int .i64 n]]) (fun (i : ((Int) × (Int))) => match i with | (b, n) => 0 ≤ b ∧ b < 256) (fun (i : ((Int) × (Int))) => match i with | (b, n) => .bool (okS 8 b n)) fun i w hp => forkOkC_c i.1 i.2 hp w
theorem goodC_c (b n : Int) (hpre : 0 ≤ b ∧ b < 65536) (w : World) : Calls Tryz.prog 119 #[.agg #[.int .u16 b, .int .i64 n]] w fun e w' => e = .returned (.agg #[.int .u16 (goodS 16 b n).1, .int .i64 (goodS 16 b n).2]) ∧ RowKit.Below w.heap.size w w' := by
  refine (plain_of_vcs ⟨[bitOkC], []⟩ hmx Tryz.func119 rfl (by kernel_rfl) (args := [.agg #[.int .u16 b, .int .i64 n]]) (by simp [Tryz.ntmps119]) w (· = .agg #[.int .u16 (goodS 16 b n).1, .int .i64 (goodS 16 b n).2]) 400 ?_).mono fun e w' ⟨v, h1, h2, h3⟩ => ⟨h2 ▸ h1, h3⟩
  cases h : okS 16 b n
  · simp (maxSteps := 4000000) -dsimp [-Y1, -Array.all_eq_true, -Y3, -Y4, and_assoc, Y5, Tryz.f119, bitOkC, h, goodS, hpre]
  · simp (maxSteps := 4000000) -dsimp [-Y1, -Array.all_eq_true, -Y3, -Y4, and_assoc, Y5, Tryz.f119, bitOkC, h, goodS, hpre]
def goodC : Con Tryz.prog := Con.pure 119 Tryz.call119 (fun (i : ((Int) × (Int))) => match i with | (b, n) => [.agg #[.int .u16 b, .int .i64 n]]) (fun (i : ((Int) × (Int))) => match i with | (b, n) => 0 ≤ b ∧ b < 65536) (fun (i : ((Int) × (Int))) => match i with | (b, n) => .agg #[.int .u16 (goodS 16 b n).1, .int .i64 (goodS 16 b n).2]) fun i w hp => goodC_c i.1 i.2 hp w
theorem goodFC_c (b n : Int) (hpre : 0 ≤ b ∧ b < 256) (w : World) : Calls Tryz.prog 121 #[.agg #[.int .u8 b, .int .i64 n]] w fun e w' => e = .returned (.agg #[.int .u8 (goodS 8 b n).1, .int .i64 (goodS 8 b n).2]) ∧ RowKit.Below w.heap.size w w' := by
  refine (plain_of_vcs ⟨[forkOkC], []⟩ hmx Tryz.func121 rfl (by kernel_rfl) (args := [.agg #[.int .u8 b, .int .i64 n]]) (by simp [Tryz.ntmps121]) w (· = .agg #[.int .u8 (goodS 8 b n).1, .int .i64 (goodS 8 b n).2]) 400 ?_).mono fun e w' ⟨v, h1, h2, h3⟩ => ⟨h2 ▸ h1, h3⟩
  cases h : okS 8 b n
  · simp (maxSteps := 4000000) -dsimp [-Y1, -Array.all_eq_true, -Y3, -Y4, and_assoc, Y5, Tryz.f121, forkOkC, h, goodS, hpre]
  · simp (maxSteps := 4000000) -dsimp [-Y1, -Array.all_eq_true, -Y3, -Y4, and_assoc, Y5, Tryz.f121, forkOkC, h, goodS, hpre]
def goodFC : Con Tryz.prog := Con.pure 121 Tryz.call121 (fun (i : ((Int) × (Int))) => match i with | (b, n) => [.agg #[.int .u8 b, .int .i64 n]]) (fun (i : ((Int) × (Int))) => match i with | (b, n) => 0 ≤ b ∧ b < 256) (fun (i : ((Int) × (Int))) => match i with | (b, n) => .agg #[.int .u8 (goodS 8 b n).1, .int .i64 (goodS 8 b n).2]) fun i w hp => goodFC_c i.1 i.2 hp w
theorem bitPushC_c (b n : Int) (x : Bool) (hpre : 0 ≤ b ∧ b < 65536) (w : World) : Calls Tryz.prog 53 #[.agg #[.int .u16 b, .int .i64 n], .bool x] w fun e w' => e = .returned (.agg #[.int .u16 (pushS 16 (goodS 16 b n) x).1, .int .i64 (pushS 16 (goodS 16 b n) x).2]) ∧ RowKit.Below w.heap.size w w' := by
  refine (plain_of_vcs ⟨[goodC, bitC], []⟩ hmx Tryz.func53 rfl (by kernel_rfl) (args := [.agg #[.int .u16 b, .int .i64 n], .bool x]) (by simp [Tryz.ntmps53]) w (· = .agg #[.int .u16 (pushS 16 (goodS 16 b n) x).1, .int .i64 (pushS 16 (goodS 16 b n) x).2]) 400 ?_).mono fun e w' ⟨v, h1, h2, h3⟩ => ⟨h2 ▸ h1, h3⟩
  have hg := (gS_ok (s := (b, n)) hpre.1).bd
  unfold gS at hg
  simp only at hg
  generalize hgg : goodS 16 b n = g at *
  obtain ⟨y, k⟩ := g
  simp only at hg
  have e1 : IntKind.i64.wrap (k + 1) = k + 1 := wrap_i64 (by omega) (by omega)
  have e2 := push_u0 hg.1
  have e3 := push_u1 hg.1
  cases x
  · simp (maxSteps := 4000000) -dsimp [-Y1, -Array.all_eq_true, -Y3, -Y4, and_assoc, Y5, Tryz.f53, goodC, bitC, hpre, hgg, e1, e2, e3, pushS, min_if]
  · simp (maxSteps := 4000000) -dsimp [-Y1, -Array.all_eq_true, -Y3, -Y4, and_assoc, Y5, Tryz.f53, goodC, bitC, hpre, hgg, e1, e2, e3, pushS, min_if]
def bitPushC : Con Tryz.prog := Con.pure 53 Tryz.call53 (fun (i : ((Int) × (Int) × (Bool))) => match i with | (b, n, x) => [.agg #[.int .u16 b, .int .i64 n], .bool x]) (fun (i : ((Int) × (Int) × (Bool))) => match i with | (b, n, x) => 0 ≤ b ∧ b < 65536) (fun (i : ((Int) × (Int) × (Bool))) => match i with | (b, n, x) => .agg #[.int .u16 (pushS 16 (goodS 16 b n) x).1, .int .i64 (pushS 16 (goodS 16 b n) x).2]) fun i w hp => bitPushC_c i.1 i.2.1 i.2.2 hp w
theorem bitPopC_c (b n : Int) (hpre : 0 ≤ b ∧ b < 65536) (w : World) : Calls Tryz.prog 55 #[.agg #[.int .u16 b, .int .i64 n]] w fun e w' => e = .returned (.tuple #[.agg #[.int .u16 (popS (goodS 16 b n)).1, .int .i64 (popS (goodS 16 b n)).2], .bool (topS (goodS 16 b n))]) ∧ RowKit.Below w.heap.size w w' := by
  refine (plain_of_vcs ⟨[goodC], [(4, [(0, false), (1, false), (2, false), (3, false), (4, false), (5, false), (6, false), (7, false), (8, false), (9, false), (10, false), (11, false), (8, true), (12, false)])]⟩ hmx Tryz.func55 rfl (by kernel_rfl) (args := [.agg #[.int .u16 b, .int .i64 n]]) (by simp [Tryz.ntmps55]) w (· = .tuple #[.agg #[.int .u16 (popS (goodS 16 b n)).1, .int .i64 (popS (goodS 16 b n)).2], .bool (topS (goodS 16 b n))]) 400 ?_).mono fun e w' ⟨v, h1, h2, h3⟩ => ⟨h2 ▸ h1, h3⟩
  have hg := (gS_ok (s := (b, n)) hpre.1).bd
  unfold gS at hg
  simp only at hg
  generalize hgg : goodS 16 b n = g at *
  obtain ⟨y, k⟩ := g
  simp only at hg
  have e1 : IntKind.i64.wrap (k - 1) = k - 1 := wrap_i64 (by omega) (by omega)
  have e2 := pop_u hg.1
  have e3 := top_u ⟨hg.1, hg.2.1⟩
  by_cases hk : k = 0
  · simp (maxSteps := 4000000) -dsimp [-Y1, -Array.all_eq_true, -Y3, -Y4, and_assoc, Y5, Tryz.f55, goodC, hpre, hgg, e1, popS, topS, hk]
  · simp (maxSteps := 4000000) -dsimp [-Y1, -Array.all_eq_true, -Y3, -Y4, and_assoc, Y5, Tryz.f55, goodC, hpre, hgg, e1, e2, e3, popS, topS, hk]
def bitPopC : Con Tryz.prog := Con.pure 55 Tryz.call55 (fun (i : ((Int) × (Int))) => match i with | (b, n) => [.agg #[.int .u16 b, .int .i64 n]]) (fun (i : ((Int) × (Int))) => match i with | (b, n) => 0 ≤ b ∧ b < 65536) (fun (i : ((Int) × (Int))) => match i with | (b, n) => .tuple #[.agg #[.int .u16 (popS (goodS 16 b n)).1, .int .i64 (popS (goodS 16 b n)).2], .bool (topS (goodS 16 b n))]) fun i w hp => bitPopC_c i.1 i.2 hp w
theorem bitTopC_c (b n : Int) (hpre : 0 ≤ b ∧ b < 65536) (w : World) : Calls Tryz.prog 30 #[.agg #[.int .u16 b, .int .i64 n]] w fun e w' => e = .returned (.bool (topS (goodS 16 b n))) ∧ RowKit.Below w.heap.size w w' := by
  refine (plain_of_vcs ⟨[bitPopC], []⟩ hmx Tryz.func30 rfl (by kernel_rfl) (args := [.agg #[.int .u16 b, .int .i64 n]]) (by simp [Tryz.ntmps30]) w (· = .bool (topS (goodS 16 b n))) 400 ?_).mono fun e w' ⟨v, h1, h2, h3⟩ => ⟨h2 ▸ h1, h3⟩
  simp (maxSteps := 4000000) -dsimp [-Y1, -Array.all_eq_true, -Y3, -Y4, and_assoc, Y5, Tryz.f30, bitPopC, hpre]
def bitTopC : Con Tryz.prog := Con.pure 30 Tryz.call30 (fun (i : ((Int) × (Int))) => match i with | (b, n) => [.agg #[.int .u16 b, .int .i64 n]]) (fun (i : ((Int) × (Int))) => match i with | (b, n) => 0 ≤ b ∧ b < 65536) (fun (i : ((Int) × (Int))) => match i with | (b, n) => .bool (topS (goodS 16 b n))) fun i w hp => bitTopC_c i.1 i.2 hp w
theorem forkPushC_c (b n : Int) (x : Bool) (hpre : 0 ≤ b ∧ b < 256) (w : World) : Calls Tryz.prog 56 #[.agg #[.int .u8 b, .int .i64 n], .bool x] w fun e w' => e = .returned (.agg #[.int .u8 (pushS 8 (goodS 8 b n) x).1, .int .i64 (pushS 8 (goodS 8 b n) x).2]) ∧ RowKit.Below w.heap.size w w' := by
  refine (plain_of_vcs ⟨[goodFC, bitC], []⟩ hmx Tryz.func56 rfl (by kernel_rfl) (args := [.agg #[.int .u8 b, .int .i64 n], .bool x]) (by simp [Tryz.ntmps56]) w (· = .agg #[.int .u8 (pushS 8 (goodS 8 b n) x).1, .int .i64 (pushS 8 (goodS 8 b n) x).2]) 400 ?_).mono fun e w' ⟨v, h1, h2, h3⟩ => ⟨h2 ▸ h1, h3⟩
  have hg := (gF_ok (s := (b, n)) hpre.1).bd
  unfold gF at hg
  simp only at hg
  generalize hgg : goodS 8 b n = g at *
  obtain ⟨y, k⟩ := g
  simp only at hg
  have e1 : IntKind.i64.wrap (k + 1) = k + 1 := wrap_i64 (by omega) (by omega)
  have e2 := push_u80 hg.1
  have e3 := push_u81 hg.1
  have e4 : IntKind.u8.wrap 0 = 0 := rfl
  have e5 : IntKind.u8.wrap 1 = 1 := rfl
  cases x
  · simp (maxSteps := 4000000) -dsimp [-Y1, -Array.all_eq_true, -Y3, -Y4, and_assoc, Y5, Tryz.f56, goodFC, bitC, hpre, hgg, e1, e2, e3, e4, e5, pushS, min_if]
  · simp (maxSteps := 4000000) -dsimp [-Y1, -Array.all_eq_true, -Y3, -Y4, and_assoc, Y5, Tryz.f56, goodFC, bitC, hpre, hgg, e1, e2, e3, e4, e5, pushS, min_if]
def forkPushC : Con Tryz.prog := Con.pure 56 Tryz.call56 (fun (i : ((Int) × (Int) × (Bool))) => match i with | (b, n, x) => [.agg #[.int .u8 b, .int .i64 n], .bool x]) (fun (i : ((Int) × (Int) × (Bool))) => match i with | (b, n, x) => 0 ≤ b ∧ b < 256) (fun (i : ((Int) × (Int) × (Bool))) => match i with | (b, n, x) => .agg #[.int .u8 (pushS 8 (goodS 8 b n) x).1, .int .i64 (pushS 8 (goodS 8 b n) x).2]) fun i w hp => forkPushC_c i.1 i.2.1 i.2.2 hp w
theorem forkPopC_c (b n : Int) (hpre : 0 ≤ b ∧ b < 256) (w : World) : Calls Tryz.prog 58 #[.agg #[.int .u8 b, .int .i64 n]] w fun e w' => e = .returned (.tuple #[.agg #[.int .u8 (popS (goodS 8 b n)).1, .int .i64 (popS (goodS 8 b n)).2], .bool (topS (goodS 8 b n))]) ∧ RowKit.Below w.heap.size w w' := by
  refine (plain_of_vcs ⟨[goodFC], [(4, [(0, false), (1, false), (2, false), (3, false), (4, false), (5, false), (6, false), (7, false), (8, false), (9, false), (10, false), (11, false), (8, true), (12, false)])]⟩ hmx Tryz.func58 rfl (by kernel_rfl) (args := [.agg #[.int .u8 b, .int .i64 n]]) (by simp [Tryz.ntmps58]) w (· = .tuple #[.agg #[.int .u8 (popS (goodS 8 b n)).1, .int .i64 (popS (goodS 8 b n)).2], .bool (topS (goodS 8 b n))]) 400 ?_).mono fun e w' ⟨v, h1, h2, h3⟩ => ⟨h2 ▸ h1, h3⟩
  have hg := (gF_ok (s := (b, n)) hpre.1).bd
  unfold gF at hg
  simp only at hg
  generalize hgg : goodS 8 b n = g at *
  obtain ⟨y, k⟩ := g
  simp only at hg
  have e1 : IntKind.i64.wrap (k - 1) = k - 1 := wrap_i64 (by omega) (by omega)
  have e2 := pop_u8 hg.1
  have e3 := top_u8 ⟨hg.1, hg.2.1⟩
  by_cases hk : k = 0
  · simp (maxSteps := 4000000) -dsimp [-Y1, -Array.all_eq_true, -Y3, -Y4, and_assoc, Y5, Tryz.f58, goodFC, hpre, hgg, e1, popS, topS, hk]
  · simp (maxSteps := 4000000) -dsimp [-Y1, -Array.all_eq_true, -Y3, -Y4, and_assoc, Y5, Tryz.f58, goodFC, hpre, hgg, e1, e2, e3, popS, topS, hk]
def forkPopC : Con Tryz.prog := Con.pure 58 Tryz.call58 (fun (i : ((Int) × (Int))) => match i with | (b, n) => [.agg #[.int .u8 b, .int .i64 n]]) (fun (i : ((Int) × (Int))) => match i with | (b, n) => 0 ≤ b ∧ b < 256) (fun (i : ((Int) × (Int))) => match i with | (b, n) => .tuple #[.agg #[.int .u8 (popS (goodS 8 b n)).1, .int .i64 (popS (goodS 8 b n)).2], .bool (topS (goodS 8 b n))]) fun i w hp => forkPopC_c i.1 i.2 hp w
theorem forkTopC_c (b n : Int) (hpre : 0 ≤ b ∧ b < 256) (w : World) : Calls Tryz.prog 57 #[.agg #[.int .u8 b, .int .i64 n]] w fun e w' => e = .returned (.bool (topS (goodS 8 b n))) ∧ RowKit.Below w.heap.size w w' := by
  refine (plain_of_vcs ⟨[forkPopC], []⟩ hmx Tryz.func57 rfl (by kernel_rfl) (args := [.agg #[.int .u8 b, .int .i64 n]]) (by simp [Tryz.ntmps57]) w (· = .bool (topS (goodS 8 b n))) 400 ?_).mono fun e w' ⟨v, h1, h2, h3⟩ => ⟨h2 ▸ h1, h3⟩
  simp (maxSteps := 4000000) -dsimp [-Y1, -Array.all_eq_true, -Y3, -Y4, and_assoc, Y5, Tryz.f57, forkPopC, hpre]
def forkTopC : Con Tryz.prog := Con.pure 57 Tryz.call57 (fun (i : ((Int) × (Int))) => match i with | (b, n) => [.agg #[.int .u8 b, .int .i64 n]]) (fun (i : ((Int) × (Int))) => match i with | (b, n) => 0 ≤ b ∧ b < 256) (fun (i : ((Int) × (Int))) => match i with | (b, n) => .bool (topS (goodS 8 b n))) fun i w hp => forkTopC_c i.1 i.2 hp w
theorem bitTurnC_c (b n : Int) (x : Bool) (hpre : 0 ≤ b ∧ b < 65536) (w : World) : Calls Tryz.prog 54 #[.agg #[.int .u16 b, .int .i64 n], .bool x] w fun e w' => e = .returned (.agg #[.int .u16 (turnS (goodS 16 b n) x).1, .int .i64 (turnS (goodS 16 b n) x).2]) ∧ RowKit.Below w.heap.size w w' := by
  refine (plain_of_vcs ⟨[goodC, bitC], []⟩ hmx Tryz.func54 rfl (by kernel_rfl) (args := [.agg #[.int .u16 b, .int .i64 n], .bool x]) (by simp [Tryz.ntmps54]) w (· = .agg #[.int .u16 (turnS (goodS 16 b n) x).1, .int .i64 (turnS (goodS 16 b n) x).2]) 400 ?_).mono fun e w' ⟨v, h1, h2, h3⟩ => ⟨h2 ▸ h1, h3⟩
  have hg := (gS_ok (s := (b, n)) hpre.1).bd
  unfold gS at hg
  simp only at hg
  generalize hgg : goodS 16 b n = g at *
  obtain ⟨y, k⟩ := g
  simp only at hg
  by_cases hk : k = 0
  · simp (maxSteps := 4000000) -dsimp [-Y1, -Array.all_eq_true, -Y3, -Y4, and_assoc, Y5, Tryz.f54, goodC, bitC, hpre, hgg, turnS, hk]
  · have e1 := turn_u0 ⟨hg.1, hg.2.1⟩
    have e2 := turn_u1 ⟨hg.1, hg.2.1⟩
    cases x
    · simp (maxSteps := 4000000) -dsimp [-Y1, -Array.all_eq_true, -Y3, -Y4, and_assoc, Y5, Tryz.f54, goodC, bitC, hpre, hgg, turnS, hk, e1, e2]
    · simp (maxSteps := 4000000) -dsimp [-Y1, -Array.all_eq_true, -Y3, -Y4, and_assoc, Y5, Tryz.f54, goodC, bitC, hpre, hgg, turnS, hk, e1, e2]
def bitTurnC : Con Tryz.prog := Con.pure 54 Tryz.call54 (fun (i : ((Int) × (Int) × (Bool))) => match i with | (b, n, x) => [.agg #[.int .u16 b, .int .i64 n], .bool x]) (fun (i : ((Int) × (Int) × (Bool))) => match i with | (b, n, x) => 0 ≤ b ∧ b < 65536) (fun (i : ((Int) × (Int) × (Bool))) => match i with | (b, n, x) => .agg #[.int .u16 (turnS (goodS 16 b n) x).1, .int .i64 (turnS (goodS 16 b n) x).2]) fun i w hp => bitTurnC_c i.1 i.2.1 i.2.2 hp w

def boolC (l : List Bool) : List C := l.map fun x => .v (.bool x)
theorem boolC_len (l : List Bool) : (boolC l).length = l.length := by simp [boolC]
theorem boolC_take (l : List Bool) (pad : List C) : List.take l.length (boolC l ++ pad) = boolC l := by rw [List.take_left' (boolC_len l)]
theorem boolC_snoc (l : List Bool) (x : Bool) : boolC (l ++ [x]) = boolC l ++ [.v (.bool x)] := by simp [boolC]
theorem ediv_bd {b : Int} {k : Nat} (hb : 0 ≤ b) (hb2 : b < 65536) : 0 ≤ b / 2 ^ k ∧ b / 2 ^ k < 65536 := by
  have hp := pow_pos2 k
  refine ⟨Int.ediv_nonneg hb (by omega), ?_⟩
  have := Int.ediv_le_self (2 ^ k) hb
  omega
theorem bitsL_next (b : Int) {k j : Nat} (h : j < k) : bitsL (j + 1) (b / 2 ^ (k - (j + 1))) = bitsL j (b / 2 ^ (k - j)) ++ [b / 2 ^ (k - (j + 1)) % 2 == 1] := by
  rw [bitsL]
  have e : k - j = k - (j + 1) + 1 := by omega
  have e2 : b / 2 ^ (k - (j + 1)) / 2 = b / 2 ^ (k - j) := by
    rw [Int.ediv_ediv_of_nonneg (Int.le_of_lt (pow_pos2 _)), e, Int.pow_succ]
  rw [e2]
  congr 2
theorem l1PowerC_c (i : Int) (hpre : 0 ≤ i ∧ i ≤ 15) (w : World) : Calls Tryz.prog 196 #[.int .i64 i] w fun e w' => e = .returned (.int .u16 (2 ^ i.toNat)) ∧ RowKit.Below w.heap.size w w' := by
  refine (plain_of_vcs ⟨[], []⟩ hmx Tryz.func196 rfl (by kernel_rfl) (args := [.int .i64 i]) (by simp [Tryz.ntmps196]) w (· = .int .u16 (2 ^ i.toNat)) 400 ?_).mono fun e w' ⟨v, h1, h2, h3⟩ => ⟨h2 ▸ h1, h3⟩
  simp (maxSteps := 4000000) -dsimp [-Y1, -Array.all_eq_true, -Y3, -Y4, and_assoc, Y5, Tryz.f196]
  refine loop_inv (σ := ⟨[], []⟩) hmx (by kernel_rfl) (fun q cx tm mem => cx = ⟨w, [], w, []⟩ ∧ ∃ (j : Nat), j ≤ i.toNat ∧ q = i.toNat - j ∧ mem = [] ∧ Sx.look tm 3 = .v (.int .u16 (2 ^ j)) ∧ Sx.look tm 4 = .v (.int .i64 j) ∧ Sx.look tm 0 = .v (.int .i64 i))
    i.toNat ⟨rfl, 0, by omega, rfl, rfl, by simp [Sx.look], by simp [Sx.look], by simp [Sx.look]⟩ ?_
  rintro q cx tm mem ⟨rfl, j, hj, rfl, rfl, h3, h4, h0⟩
  refine ⟨300, ?_⟩
  by_cases hlt : (j : Int) < i
  · have hb : (2 : Int) ^ (j + 1) ≤ 2 ^ 15 := pow_mono2 (by omega)
    have hp := pow_pos2 j
    have hw : IntKind.u16.wrap (2 ^ j * 2) = 2 ^ (j + 1) := by
      rw [pow_succ2] at hb ⊢
      rw [wrap_u16 (by omega) (by omega)]; omega
    simp (maxSteps := 4000000) -dsimp [-Y1, -Array.all_eq_true, -Y3, -Y4, and_assoc, Y5, Tryz.f196, h3, h4, h0, hlt, hw, i_succ (i := j) (by omega)]
    exact ⟨i.toNat - (j + 1), by omega, j + 1, by omega, rfl, rfl, by omega⟩
  · have e : j = i.toNat := by omega
    subst e
    simp (maxSteps := 4000000) -dsimp [-Y1, -Array.all_eq_true, -Y3, -Y4, and_assoc, Y5, Tryz.f196, h3, h4, h0, hlt]
    omega
def l1PowerC : Con Tryz.prog := Con.pure 196 Tryz.call196 (fun (i : ((Int))) => [.int .i64 i]) (fun (i : ((Int))) => 0 ≤ i ∧ i ≤ 15) (fun (i : ((Int))) => .int .u16 (2 ^ i.toNat)) fun i w hp => l1PowerC_c i hp w
theorem sBitOkC_c (b n : Int) (hpre : 0 ≤ b ∧ b < 65536) (w : World) : Calls Tryz.prog 89 #[.agg #[.int .u16 b, .int .i64 n]] w fun e w' => e = .returned (.bool (okS 16 b n)) ∧ RowKit.Below w.heap.size w w' := by
  refine (plain_of_vcs ⟨[], []⟩ hmx Tryz.func89 rfl (by kernel_rfl) (args := [.agg #[.int .u16 b, .int .i64 n]]) (by simp [Tryz.ntmps89]) w (· = .bool (okS 16 b n)) 400 ?_).mono fun e w' ⟨v, h1, h2, h3⟩ => ⟨h2 ▸ h1, h3⟩
  obtain ⟨hb, hb2⟩ := hpre
  have e1 : IntKind.i64.wrap b = b := wrap_i64 (by omega) (by omega)
  by_cases h0 : n < 0
  · have e4 : okS 16 b n = false := by
      cases e : okS 16 b n
      · rfl
      · have := okS_iff.1 e; omega
    simp (maxSteps := 4000000) -dsimp [-Y1, -Array.all_eq_true, -Y3, -Y4, and_assoc, Y5, Tryz.f89, h0, e4]
  by_cases h1 : 16 < n
  · have e4 : okS 16 b n = false := by
      cases e : okS 16 b n
      · rfl
      · have := (okS_iff.1 e).2.1; omega
    simp (maxSteps := 4000000) -dsimp [-Y1, -Array.all_eq_true, -Y3, -Y4, and_assoc, Y5, Tryz.f89, h0, h1, e4]
  have e4 : okS 16 b n = decide (b < 2 ^ n.toNat) := by
    unfold okS
    congr 1
    apply propext
    exact ⟨fun h => h.2.2, fun h' => ⟨by omega, by simp; omega, h'⟩⟩
  simp (maxSteps := 4000000) -dsimp [-Y1, -Array.all_eq_true, -Y3, -Y4, and_assoc, Y5, Tryz.f89, h0, h1]
  intro b1
  refine loop_inv (σ := ⟨[], []⟩) hmx (by kernel_rfl) (fun q cx tm mem => cx = ⟨w, [], w, []⟩ ∧ ∃ (j : Nat), j ≤ n.toNat ∧ q = n.toNat - j ∧ mem = [⟨b1, [.v (.int .u16 b), .v (.int .i64 n)], 56⟩] ∧ Sx.look tm 3 = .v (.int .i64 (2 ^ j)) ∧ Sx.look tm 4 = .v (.int .i64 j) ∧ Sx.look tm 1 = .p 0 b1 0)
    n.toNat ⟨rfl, 0, by omega, rfl, rfl, by simp [Sx.look], by simp [Sx.look], by simp [Sx.look]⟩ ?_
  rintro q cx tm mem ⟨rfl, j, hj, rfl, rfl, h3, h4, h1'⟩
  refine ⟨300, ?_⟩
  by_cases hlt : (j : Int) < n
  · have hbb : (2 : Int) ^ (j + 1) ≤ 2 ^ 16 := pow_mono2 (by omega)
    have hp := pow_pos2 j
    have hw : IntKind.i64.wrap (2 ^ j * 2) = 2 ^ (j + 1) := by
      rw [pow_succ2] at hbb ⊢
      rw [wrap_i64 (by omega) (by omega)]; omega
    simp (maxSteps := 4000000) -dsimp [-Y1, -Array.all_eq_true, -Y3, -Y4, and_assoc, Y5, Tryz.f89, h3, h4, h1', hlt, hw, i_succ (i := j) (by omega)]
    exact ⟨1, n.toNat - (j + 1), by omega, j + 1, by omega, rfl, rfl, by omega⟩
  · have e : j = n.toNat := by omega
    subst e
    simp (maxSteps := 4000000) -dsimp [-Y1, -Array.all_eq_true, -Y3, -Y4, and_assoc, Y5, Tryz.f89, h3, h4, h1', hlt, e1, e4]
    omega
def sBitOkC : Con Tryz.prog := Con.pure 89 Tryz.call89 (fun (i : ((Int) × (Int))) => match i with | (b, n) => [.agg #[.int .u16 b, .int .i64 n]]) (fun (i : ((Int) × (Int))) => match i with | (b, n) => 0 ≤ b ∧ b < 65536) (fun (i : ((Int) × (Int))) => match i with | (b, n) => .bool (okS 16 b n)) fun i w hp => sBitOkC_c i.1 i.2 hp w
def RdBo (F : Facts) (o : Option Addr) (l : List Bool) : Prop := RdO F 1 o (l.map fun x => [Value.bool x])
theorem RdBo.mono {F G : Facts} {o : Option Addr} {l : List Bool} (h : RdBo F o l) (hs : Sub F G) : RdBo G o l := RdO.mono h hs
theorem RdBo.uniq {F : Facts} {o o' : Option Addr} {l l' : List Bool} (h : RdBo F o l) (h' : RdBo F o' l') (ho : o = o') (hl : l.length = l'.length) : l = l' := by
  subst ho
  have := RdO.uniq h h' (by simpa using hl)
  have h2 := congrArg (List.map fun r : List Value => match r with | [Value.bool x] => x | _ => false) this
  simpa [Function.comp_def] using h2
theorem RdBo.there {F : Facts} {o : Option Addr} {l : List Bool} (h : RdBo F o l) {i : Nat} (hi : i < l.length) : o.isSome = true := by
  obtain ⟨_, a, rfl, _⟩ := h i [Value.bool l[i]] (by simp [hi]); rfl
theorem RdBo.ld {P : Program} {d : Nat} {cx : Cx} {mem : List Blk} {o : Option Addr} {l : List Bool} (h : RdBo (factF cx) o l) {t : TypeId} (ht : aggT P t = some false) {i : Nat} {x : Bool} (hx : l[i]? = some x) {K : Value → Prop} : LoadV d P cx mem t (padd o i) K = K (.bool x) := by
  have hr : (l.map fun x => [Value.bool x])[i]? = some [.bool x] := by simp [hx]
  have := RdO.ld_zero (d := d) (RdO.mono h (sub_now cx mem)) ht hr (K := K) rfl
  simpa using this
structure IsBools (F : Facts) (v : Value) (l : List Bool) : Prop where
  ex : ∃ o cap, v = .slice o l.length cap ∧ RdBo F o l ∧ l.length ≤ cap ∧ cap ≤ maxLen
theorem IsBools.mono {F G : Facts} {v : Value} {l : List Bool} (h : IsBools F v l) (hs : Sub F G) : IsBools G v l := by
  obtain ⟨o, cap, h1, h2, h3⟩ := h.ex
  exact ⟨o, cap, h1, h2.mono hs, h3⟩
theorem valL_step {l : List Bool} {j : Nat} (h : j < l.length) {x : Bool} (hx : l[l.length - 1 - j]? = some x) : valL (l.drop (l.length - (j + 1))) = b2i x * 2 ^ j + valL (l.drop (l.length - j)) := by
  have e : l.length - (j + 1) = l.length - 1 - j := by omega
  have hi := (List.getElem?_eq_some_iff.1 hx).1
  rw [e, List.drop_eq_getElem_cons hi, (List.getElem?_eq_some_iff.1 hx).2, valL_cons]
  have e2 : l.length - 1 - j + 1 = l.length - j := by omega
  rw [e2, List.length_drop]
  congr 2
  congr 1
  omega
theorem val_bd (l : List Bool) (j : Nat) (h : j ≤ l.length) : 0 ≤ valL (l.drop (l.length - j)) ∧ valL (l.drop (l.length - j)) < 2 ^ j := valL_bd j _ (by rw [List.length_drop]; omega)
theorem stack_end {l : List Bool} {j : Nat} (h : j ≤ l.length) (h16 : j ≤ 16) (he : j = l.length ∨ j = 16) : stackS 16 l = (valL (l.drop (l.length - j)), (j : Int)) := by
  unfold stackS
  have e : l.length - 16 = l.length - j := by omega
  rw [e, List.length_drop]
  congr 1
  omega
theorem sBitListG_c (b n : Int) (cx : Cx) (mem : List Blk) (w : World) (hpre : 0 ≤ b ∧ b < 65536) (hm : MemRel cx mem w) :
    Calls Tryz.prog 156 (([.v (.agg #[.int .u16 b, .int .i64 n])] : List C).map den).toArray w fun e w' => ∃ cx' c mem', e = .returned (den c) ∧ MemRel cx' mem' w' ∧ Le cx cx' ∧ ∃ (B1 : Blk) (bid cap : Nat) (pad : List C), c = .s (mem.length + 1) bid 0 (listS 16 b n).length cap ∧ mem' = mem ++ [B1, ⟨bid, boolC (listS 16 b n) ++ pad, 4⟩] ∧ (listS 16 b n).length ≤ cap ∧ cap ≤ maxLen ∧ pad.length = cap - (listS 16 b n).length := by
  refine step_of_vcs ⟨[sBitOkC, l1PowerC], []⟩ hmx Tryz.func156 rfl (by kernel_rfl) (args := [.v (.agg #[.int .u16 b, .int .i64 n])]) (by simp [Tryz.ntmps156]) hm (fun cx' c mem' => Le cx cx' ∧ ∃ (B1 : Blk) (bid cap : Nat) (pad : List C), c = .s (mem.length + 1) bid 0 (listS 16 b n).length cap ∧ mem' = mem ++ [B1, ⟨bid, boolC (listS 16 b n) ++ pad, 4⟩] ∧ (listS 16 b n).length ≤ cap ∧ cap ≤ maxLen ∧ pad.length = cap - (listS 16 b n).length) 400 ?_
  obtain ⟨hb, hb2⟩ := hpre
  cases ho : okS 16 b n
  · have hl : listS 16 b n = [] := by unfold listS; rw [ho]; rfl
    simp (maxSteps := 4000000) -dsimp [-Y1, -Array.all_eq_true, -Y3, -Y4, and_assoc, Y5, Tryz.f156, sBitOkC, l1PowerC, hb, hb2, ho]
    intro b1 b2
    rw [hl]
    exact EndK.all ⟨Le.refl _, _, b2, 0, [], rfl, rfl, by simp, by decide, rfl⟩
  · obtain ⟨n0, n16, hbn⟩ := okS_iff.1 ho
    obtain ⟨k, rfl⟩ := Int.eq_ofNat_of_zero_le n0
    have hl : listS 16 b k = bitsL k b := by unfold listS; rw [ho]; rfl
    have hk1 : IntKind.i64.wrap ((k : Int) - 1) = (k : Int) - 1 := wrap_i64 (by omega) (by omega)
    simp (maxSteps := 4000000) -dsimp [-Y1, -Array.all_eq_true, -Y3, -Y4, and_assoc, Y5, Tryz.f156, sBitOkC, l1PowerC, hb, hb2, ho, hk1]
    intro b1 b2
    refine loop_inv (σ := ⟨[sBitOkC, l1PowerC], []⟩) hmx (by kernel_rfl) (fun q cx' tm mem' => Le cx cx' ∧ ∃ (j b' cp : Nat) (pad : List C) (ii : Int), ii = (k : Int) - 1 - j ∧ j ≤ k ∧ q = k - j ∧ j ≤ cp ∧ cp ≤ maxLen ∧ pad.length = cp - j ∧ mem' = mem ++ [⟨b1, [.v (.int .u16 b), .v (.int .i64 k)], 56⟩, ⟨b', boolC (bitsL j (b / 2 ^ (k - j))) ++ pad, 4⟩] ∧ Sx.look tm 4 = .v (.int .i64 ii) ∧ Sx.look tm 3 = .s (mem.length + 1) b' 0 j cp ∧ Sx.look tm 1 = .p mem.length b1 0)
      k ⟨Le.refl _, 0, b2, 0, [], (k : Int) - 1, by omega, by omega, rfl, by omega, by decide, rfl, by simp [bitsL, boolC], by simp [Sx.look], by simp [Sx.look], by simp [Sx.look]⟩ ?_
    rintro q cx2 tm mem2 ⟨hle, j, b', cp, pad, ii, hii, hj, rfl, hjc, hcp, hpad, rfl, h4, h3, h1⟩
    refine ⟨400, ?_⟩
    by_cases hlt : j < k
    · have hge : 0 ≤ ii := by omega
      have hi : ii.toNat = k - (j + 1) := by omega
      have hi15 : ii ≤ 15 := by omega
      have hdiv : b.tdiv (2 ^ (k - (j + 1))) = b / 2 ^ (k - (j + 1)) := Int.tdiv_eq_ediv_of_nonneg hb
      have hdb := ediv_bd (k := k - (j + 1)) hb hb2
      have hw : IntKind.u16.wrap (b / 2 ^ (k - (j + 1))) = b / 2 ^ (k - (j + 1)) := wrap_u16 hdb.1 hdb.2
      have hmod : (b / 2 ^ (k - (j + 1))).tmod 2 = b / 2 ^ (k - (j + 1)) % 2 := Int.tmod_eq_emod_of_nonneg hdb.1
      have hpos : ¬ (2 : Int) ^ (k - (j + 1)) = 0 := by have := pow_pos2 (k - (j + 1)); omega
      have hw2 : IntKind.i64.wrap (ii - 1) = ii - 1 := wrap_i64 (by omega) (by omega)
      simp (maxSteps := 4000000) -dsimp [-Y1, -Array.all_eq_true, -Y3, -Y4, and_assoc, Y5, Tryz.f156, sBitOkC, l1PowerC, h4, h3, h1, hge, hi, hi15, hdiv, hw, hmod, hpos, List.getElem?_append, List.set_append, List.getElem?_set]
      intro cx3 p hle3 hlit
      rw [RdO.sl (size := 1) (rows := [[.bool (b / 2 ^ (k - (j + 1)) % 2 == 1)]]) ((hlit.mono ((sub_new cx3).trans (sub_now _ _))).rows (by decide) (by simp) (by simp)) (by decide) (by simp)]
      have e0 := boolC_take (bitsL j (b / 2 ^ (k - j))) pad
      rw [bitsL_len] at e0
      have e1 : (boolC (bitsL j (b / 2 ^ (k - j)))).length = j := by rw [boolC_len, bitsL_len]
      unfold GrowV
      simp (maxSteps := 4000000) -dsimp [-Y1, -Array.all_eq_true, -Y3, -Y4, and_assoc, Y5, Tryz.f156, sBitOkC, l1PowerC, h4, h3, h1, e0, e1, hw2, List.getElem?_append, List.set_append, List.getElem?_set]
      have em : j + 1 ≤ maxLen := by unfold maxLen; omega
      refine ⟨by omega, hjc, hcp, em, by omega, fun b4 cp4 pad4 g1 g2 g3 => ⟨mem.length + 2, k - (j + 1), by omega, hle.trans hle3, j + 1, by omega, rfl, b4, cp4, g1, g2, pad4, g3, ?_, by omega, rfl, rfl, rfl⟩⟩
      rw [List.take_of_length_le (by simp), bitsL_next b hlt, boolC_snoc]
      simp
    · obtain rfl : j = k := by omega
      have hge : ¬ 0 ≤ ii := by omega
      simp (maxSteps := 4000000) -dsimp [-Y1, -Array.all_eq_true, -Y3, -Y4, and_assoc, Y5, Tryz.f156, sBitOkC, l1PowerC, h4, h3, h1, hge, List.getElem?_append, List.set_append, List.getElem?_set]
      rw [hl, bitsL_len]
      exact EndK.all ⟨hle, _, b', cp, pad, rfl, rfl, hjc, hcp, hpad⟩
def sBitListG_S : Gens Tryz.prog 156 where
  ι := ((Int) × (Int))
  A := fun (i : ((Int) × (Int))) => match i with | (b, n) => [.v (.agg #[.int .u16 b, .int .i64 n])]
  pre := fun (i : ((Int) × (Int))) (cx : Cx) (mem : List Blk) => match i with | (b, n) => 0 ≤ b ∧ b < 65536
  post := fun (i : ((Int) × (Int))) (cx : Cx) (mem : List Blk) (cx' : Cx) (c : C) (mem' : List Blk) => match i with | (b, n) => Le cx cx' ∧ ∃ (B1 : Blk) (bid cap : Nat) (pad : List C), c = .s (mem.length + 1) bid 0 (listS 16 b n).length cap ∧ mem' = mem ++ [B1, ⟨bid, boolC (listS 16 b n) ++ pad, 4⟩] ∧ (listS 16 b n).length ≤ cap ∧ cap ≤ maxLen ∧ pad.length = cap - (listS 16 b n).length
  enter := Tryz.call156
  h := fun i cx mem w hp hm => sBitListG_c i.1 i.2 cx mem w hp hm
def sBitListG : Con Tryz.prog := Con.gen sBitListG_S
theorem sBitListG_at {b n : Int} {d : Nat} {cx : Cx} {mem : List Blk} {K : Cx → C → List Blk → Prop} (hpre : 0 ≤ b ∧ b < 65536) (h : ∀ cx' c mem', (Le cx cx' ∧ ∃ (B1 : Blk) (bid cap : Nat) (pad : List C), c = .s (mem.length + 1) bid 0 (listS 16 b n).length cap ∧ mem' = mem ++ [B1, ⟨bid, boolC (listS 16 b n) ++ pad, 4⟩] ∧ (listS 16 b n).length ≤ cap ∧ cap ≤ maxLen ∧ pad.length = cap - (listS 16 b n).length) → K cx' c mem') : GenV d sBitListG_S cx [.v (.agg #[.int .u16 b, .int .i64 n])] mem K := ⟨(b, n), rfl, hpre, h⟩

theorem boolC_get {l : List Bool} {pad : List C} {i : Nat} {x : Bool} (hx : l[i]? = some x) : (boolC l ++ pad)[i]? = some (.v (.bool x)) := by
  have hi := (List.getElem?_eq_some_iff.1 hx).1
  rw [List.getElem?_append_left (by rw [boolC_len]; exact hi)]
  simp [boolC, hx]
theorem l1StackG_c (k bid cap : Nat) (l : List Bool) (pad : List C) (cx : Cx) (mem : List Blk) (w : World) (hpre : mem[k]? = some ⟨bid, boolC l ++ pad, 4⟩ ∧ l.length ≤ 100) (hm : MemRel cx mem w) :
    Calls Tryz.prog 140 (([.s k bid 0 l.length cap] : List C).map den).toArray w fun e w' => ∃ cx' c mem', e = .returned (den c) ∧ MemRel cx' mem' w' ∧ Le cx cx' ∧ mem' = mem ∧ c = .v (.agg #[.int .u16 (stackS 16 l).1, .int .i64 (stackS 16 l).2]) := by
  refine step_of_vcs ⟨[], []⟩ hmx Tryz.func140 rfl (by kernel_rfl) (args := [.s k bid 0 l.length cap]) (by simp [Tryz.ntmps140]) hm (fun cx' c mem' => Le cx cx' ∧ mem' = mem ∧ c = .v (.agg #[.int .u16 (stackS 16 l).1, .int .i64 (stackS 16 l).2])) 400 ?_
  obtain ⟨hmk, hl⟩ := hpre
  have hkl := (List.getElem?_eq_some_iff.1 hmk).1
  have hmk2 := (List.getElem?_eq_some_iff.1 hmk).2
  simp (maxSteps := 4000000) -dsimp [-Y1, -Array.all_eq_true, -Y3, -Y4, and_assoc, Y5, Tryz.f140]
  intro b1 b2
  have hlen1 : IntKind.i64.wrap ((l.length : Int) - 1) = (l.length : Int) - 1 := wrap_i64 (by omega) (by omega)
  simp (maxSteps := 4000000) -dsimp [-Y1, -Array.all_eq_true, -Y3, -Y4, and_assoc, Y5, Tryz.f140, hlen1]
  refine loop_inv (σ := ⟨[], []⟩) hmx (by kernel_rfl) (fun q cx' tm mem' => cx' = cx ∧ ∃ (j : Nat) (ii : Int), ii = (l.length : Int) - 1 - j ∧ j ≤ l.length ∧ j ≤ 16 ∧ q = l.length - j ∧ mem' = mem ++ [⟨b1, [.v (.int .u16 0), .v (.int .i64 0)], 56⟩, ⟨b2, [.v (.int .u16 (valL (l.drop (l.length - j)))), .v (.int .i64 j)], 56⟩] ∧ Sx.look tm 5 = .v (.int .i64 ii) ∧ Sx.look tm 4 = .v (.int .u16 (2 ^ j % 65536)) ∧ Sx.look tm 3 = .p (mem.length + 1) b2 0 ∧ Sx.look tm 2 = .p mem.length b1 0 ∧ Sx.look tm 0 = .s k bid 0 l.length cap)
    l.length ⟨rfl, 0, (l.length : Int) - 1, by omega, by omega, by omega, rfl, by simp [valL], by simp [Sx.look], by simp [Sx.look], by simp [Sx.look], by simp [Sx.look], by simp [Sx.look]⟩ ?_
  rintro q cx2 tm mem2 ⟨rfl, j, ii, hii, hj, hj16, rfl, rfl, h5, h4, h3, h2, h0⟩
  refine ⟨500, ?_⟩
  by_cases hlt : j < l.length ∧ j < 16
  · have hge : 0 ≤ ii := by omega
    have hj16' : (j : Int) < 16 := by omega
    have hit : ii.toNat = l.length - 1 - j := by omega
    have hil : ii < l.length := by omega
    obtain ⟨x, hx⟩ : ∃ x, l[l.length - 1 - j]? = some x := ⟨l[l.length - 1 - j]'(by omega), by simp [show l.length - 1 - j < l.length by omega]⟩
    have hvb := val_bd l j hj
    have hpj : (2 : Int) ^ j ≤ 2 ^ 15 := pow_mono2 (by omega)
    have hp0 := pow_pos2 j
    have hpm : (2 : Int) ^ j % 65536 = 2 ^ j := Int.emod_eq_of_lt (by omega) (by omega)
    have hst := valL_step hlt.1 hx
    have hw1 : IntKind.u16.wrap (2 ^ j * 2) = 2 ^ (j + 1) % 65536 := by
      rw [pow_succ2]
      simp only [IntKind.wrap, IntKind.signed, IntKind.bits]
      simp
      omega
    have hw2 : IntKind.i64.wrap (ii - 1) = ii - 1 := wrap_i64 (by omega) (by omega)
    have hw3 : IntKind.u16.wrap (valL (l.drop (l.length - j)) + 2 ^ j) = valL (l.drop (l.length - j)) + 2 ^ j := wrap_u16 (by omega) (by omega)
    generalize hV : valL (l.drop (l.length - j)) = V at *
    have hld := boolC_get (pad := pad) hx
    have hll : l.length - 1 - j < (boolC l ++ pad).length := by rw [List.length_append, boolC_len]; omega
    have hle := (List.getElem?_eq_some_iff.1 hld).2
    cases x
    · have e : V = valL (l.drop (l.length - (j + 1))) := by rw [hst]; simp [b2i]
      simp (maxSteps := 4000000) -dsimp [-Y1, -Array.all_eq_true, -Y3, -Y4, and_assoc, Y5, Tryz.f140, h5, h4, h3, h2, h0, hge, hj16', hit, hil, hw1, hw2, hpm, i_succ (i := j) (by omega), List.getElem?_append, List.set_append, List.getElem?_set, hkl, hmk, hmk2, hld, hle, hll]
      exact ⟨mem.length + 2, l.length - (j + 1), by omega, j + 1, by omega, by omega, by omega, by rw [List.take_of_length_le (by simp), ← e]; rfl, by omega⟩
    · have e : V + 2 ^ j = valL (l.drop (l.length - (j + 1))) := by rw [hst]; simp [b2i]; omega
      simp (maxSteps := 4000000) -dsimp [-Y1, -Array.all_eq_true, -Y3, -Y4, and_assoc, Y5, Tryz.f140, h5, h4, h3, h2, h0, hge, hj16', hit, hil, hw1, hw2, hw3, hpm, i_succ (i := j) (by omega), List.getElem?_append, List.set_append, List.getElem?_set, hkl, hmk, hmk2, hld, hle, hll]
      exact ⟨mem.length + 2, l.length - (j + 1), by omega, j + 1, by omega, by omega, by omega, by rw [List.take_of_length_le (by simp), ← e]; rfl, by omega⟩
  · have he := stack_end hj hj16 (by omega)
    by_cases hge : 0 ≤ ii
    · have h16 : ¬ (j : Int) < 16 := by omega
      simp (maxSteps := 4000000) -dsimp [-Y1, -Array.all_eq_true, -Y3, -Y4, and_assoc, Y5, Tryz.f140, h5, h4, h3, h2, h0, hge, h16, he, List.getElem?_append, List.set_append, List.getElem?_set]
      exact EndK.left ⟨Le.refl _, rfl, by rw [he]⟩
    · simp (maxSteps := 4000000) -dsimp [-Y1, -Array.all_eq_true, -Y3, -Y4, and_assoc, Y5, Tryz.f140, h5, h4, h3, h2, h0, hge, he, List.getElem?_append, List.set_append, List.getElem?_set]
      exact EndK.left ⟨Le.refl _, rfl, by rw [he]⟩
def l1StackG_S : Gens Tryz.prog 140 where
  ι := ((Nat) × (Nat) × (Nat) × (List Bool) × (List C))
  A := fun (i : ((Nat) × (Nat) × (Nat) × (List Bool) × (List C))) => match i with | (k, bid, cap, l, pad) => [.s k bid 0 l.length cap]
  pre := fun (i : ((Nat) × (Nat) × (Nat) × (List Bool) × (List C))) (cx : Cx) (mem : List Blk) => match i with | (k, bid, cap, l, pad) => mem[k]? = some ⟨bid, boolC l ++ pad, 4⟩ ∧ l.length ≤ 100
  post := fun (i : ((Nat) × (Nat) × (Nat) × (List Bool) × (List C))) (cx : Cx) (mem : List Blk) (cx' : Cx) (c : C) (mem' : List Blk) => match i with | (k, bid, cap, l, pad) => Le cx cx' ∧ mem' = mem ∧ c = .v (.agg #[.int .u16 (stackS 16 l).1, .int .i64 (stackS 16 l).2])
  enter := Tryz.call140
  h := fun i cx mem w hp hm => l1StackG_c i.1 i.2.1 i.2.2.1 i.2.2.2.1 i.2.2.2.2 cx mem w hp hm
def l1StackG : Con Tryz.prog := Con.gen l1StackG_S
theorem l1StackG_at {k bid cap : Nat} {l : List Bool} {pad : List C} {d : Nat} {cx : Cx} {mem : List Blk} {K : Cx → C → List Blk → Prop} (hpre : mem[k]? = some ⟨bid, boolC l ++ pad, 4⟩ ∧ l.length ≤ 100) (h : ∀ cx' c mem', (Le cx cx' ∧ mem' = mem ∧ c = .v (.agg #[.int .u16 (stackS 16 l).1, .int .i64 (stackS 16 l).2])) → K cx' c mem') : GenV d l1StackG_S cx [.s k bid 0 l.length cap] mem K := ⟨(k, bid, cap, l, pad), rfl, hpre, h⟩

theorem listS_le {m : Nat} {b n : Int} : (listS m b n).length ≤ m := by
  have := listS_len (m := m) (b := b) (n := n)
  have h2 : (goodS m b n).2 ≤ m := by
    unfold goodS
    split
    · rename_i h; exact (okS_iff.1 h).2.1
    · simp
  omega
theorem l1StackG_use {d : Nat} {cx : Cx} {mem : List Blk} {K : Cx → C → List Blk → Prop} {k bid cap n : Nat} {l : List Bool} {pad : List C} (hn : n = l.length) (h : mem[k]? = some ⟨bid, boolC l ++ pad, 4⟩) (hl : l.length ≤ 100)
    (hk : ∀ cx', Le cx cx' → K cx' (.v (.agg #[.int .u16 (stackS 16 l).1, .int .i64 (stackS 16 l).2])) mem) : GenV d l1StackG_S cx [.s k bid 0 n cap] mem K := by
  subst hn
  refine l1StackG_at (pad := pad) ⟨h, hl⟩ ?_
  rintro cx' c mem' ⟨h1, rfl, rfl⟩
  exact hk cx' h1
theorem sBitPushC_c (b n : Int) (x : Bool) (hpre : 0 ≤ b ∧ b < 65536) (w : World) : Calls Tryz.prog 155 #[.agg #[.int .u16 b, .int .i64 n], .bool x] w fun e w' => e = .returned (.agg #[.int .u16 (pushS 16 (goodS 16 b n) x).1, .int .i64 (pushS 16 (goodS 16 b n) x).2]) ∧ RowKit.Below w.heap.size w w' := by
  refine (plain_of_vcs ⟨[sBitListG, l1StackG], []⟩ hmx Tryz.func155 rfl (by kernel_rfl) (args := [.agg #[.int .u16 b, .int .i64 n], .bool x]) (by simp [Tryz.ntmps155]) w (· = .agg #[.int .u16 (pushS 16 (goodS 16 b n) x).1, .int .i64 (pushS 16 (goodS 16 b n) x).2]) 400 ?_).mono fun e w' ⟨v, h1, h2, h3⟩ => ⟨h2 ▸ h1, h3⟩
  have hll := listS_le (m := 16) (b := b) (n := n)
  have hlaw : stackS 16 (listS 16 b n ++ [x]) = pushS 16 (goodS 16 b n) x := by
    rcases push_law (m := 16) (n := n) hpre.1 x with e | e
    · exact e
    · cases e
  simp (maxSteps := 4000000) -dsimp [-Y1, -Array.all_eq_true, -Y3, -Y4, and_assoc, Y5, Tryz.f155, sBitListG, l1StackG, Con.gen]
  intro b1 b2
  refine sBitListG_at hpre ?_
  rintro cx1 c mem1 ⟨hle1, B1, bid, cap, pad, rfl, rfl, h1, h2, h3⟩
  generalize listS 16 b n = l at *
  have e0 := boolC_take l pad
  have e1 := boolC_len l
  simp (maxSteps := 4000000) -dsimp [-Y1, -Array.all_eq_true, -Y3, -Y4, and_assoc, Y5, Tryz.f155, sBitListG, l1StackG]
  intro cx2 q hle2 hlit
  rw [RdO.sl (size := 1) (rows := [[.bool x]]) ((hlit.mono ((sub_new cx2).trans (sub_now _ _))).rows (by decide) (by simp) (by simp)) (by decide) (by simp)]
  unfold GrowV
  simp (maxSteps := 4000000) -dsimp [-Y1, -Array.all_eq_true, -Y3, -Y4, and_assoc, Y5, Tryz.f155, sBitListG, l1StackG, e0, e1]
  have em : l.length + 1 ≤ maxLen := by unfold maxLen; omega
  refine ⟨by omega, h1, h2, em, by omega, fun b4 cp4 pad4 g1 g2 g3 => ?_⟩
  refine l1StackG_use (l := l ++ [x]) (pad := pad4) (by simp) (by simp [boolC_snoc]) (by simp; omega) fun cx3 hle3 => ?_
  rw [hlaw]
  have hw := (hle1.trans (hle2.trans hle3)).w0
  have hg := (hle1.trans (hle2.trans hle3)).g0
  simp (maxSteps := 4000000) -dsimp [-Y1, -Array.all_eq_true, -Y3, -Y4, and_assoc, Y5, Tryz.f155, sBitListG, l1StackG, hw, hg]
def sBitPushC : Con Tryz.prog := Con.pure 155 Tryz.call155 (fun (i : ((Int) × (Int) × (Bool))) => match i with | (b, n, x) => [.agg #[.int .u16 b, .int .i64 n], .bool x]) (fun (i : ((Int) × (Int) × (Bool))) => match i with | (b, n, x) => 0 ≤ b ∧ b < 65536) (fun (i : ((Int) × (Int) × (Bool))) => match i with | (b, n, x) => .agg #[.int .u16 (pushS 16 (goodS 16 b n) x).1, .int .i64 (pushS 16 (goodS 16 b n) x).2]) fun i w hp => sBitPushC_c i.1 i.2.1 i.2.2 hp w
def StackV (d : Nat) (cx : Cx) (args : List C) (mem : List Blk) (K : Cx → C → List Blk → Prop) (_u : Tag K := ⟨⟩) : Prop :=
  ∃ (k bid cap : Nat) (l : List Bool) (pad : List C), args = [.s k bid 0 l.length cap] ∧ mem[k]? = some ⟨bid, boolC l ++ pad, 4⟩ ∧ l.length ≤ 100 ∧
    ∀ cx', Le cx cx' → K cx' (.v (.agg #[.int .u16 (stackS 16 l).1, .int .i64 (stackS 16 l).2])) mem
@[congr] theorem StackV_congr {d d' : Nat} {cx : Cx} {args args' : List C} {mem mem' : List Blk} {K : Cx → C → List Blk → Prop} (h' : d = d') (h : args = args') (hm : mem = mem') :
    StackV d cx args mem K = StackV d' cx args' mem' K := by rw [h, hm]; rfl
def l1StackT : Go.Sx.Steps Tryz.prog 140 where
  tr cx args mem K := StackV (1 + 1) cx args mem K
  enter := l1StackG_S.enter
  fr cx args mem ex K := by
    rintro ⟨k, bid, cap, l, pad, h1, h2, h3, h4⟩
    exact ⟨k, bid, cap, l, pad, h1, by rw [List.getElem?_append_left (List.getElem?_eq_some_iff.1 h2).1]; exact h2, h3, fun cx' hle => ⟨mem, rfl, hle.w0, h4 cx' hle⟩⟩
  h cx args mem K w hm := by
    rintro ⟨k, bid, cap, l, pad, rfl, h2, h3, h4⟩
    refine (l1StackG_S.h (k, bid, cap, l, pad) cx mem w ⟨h2, h3⟩ hm).mono ?_
    rintro e w' ⟨cx', c, mem', rfl, hm', g1, rfl, rfl⟩
    exact ⟨cx', _, _, rfl, hm', h4 cx' g1⟩
def l1StackK : Con Tryz.prog := Con.step l1StackT
theorem l1StackK_use {d : Nat} {cx : Cx} {mem : List Blk} {K : Cx → C → List Blk → Prop} {k bid cap n : Nat} {l : List Bool} {pad : List C} (hn : n = l.length) (h : mem[k]? = some ⟨bid, boolC l ++ pad, 4⟩) (hl : l.length ≤ 100)
    (hk : ∀ cx', Le cx cx' → K cx' (.v (.agg #[.int .u16 (stackS 16 l).1, .int .i64 (stackS 16 l).2])) mem) : StackV d cx [.s k bid 0 n cap] mem K := by
  subst hn
  exact ⟨k, bid, cap, l, pad, rfl, h, hl, hk⟩
theorem sBitPopC_c (b n : Int) (hpre : 0 ≤ b ∧ b < 65536) (w : World) : Calls Tryz.prog 82 #[.agg #[.int .u16 b, .int .i64 n]] w fun e w' => e = .returned (.tuple #[.agg #[.int .u16 (popS (goodS 16 b n)).1, .int .i64 (popS (goodS 16 b n)).2], .bool (topS (goodS 16 b n))]) ∧ RowKit.Below w.heap.size w w' := by
  refine (plain_of_vcs ⟨[sBitListG, l1StackK], [(4, [(0, false), (1, false), (2, false), (3, false), (4, false), (6, false), (7, false), (8, false), (9, false), (10, false), (11, false), (5, false), (11, true), (12, false), (11, true), (13, false)])]⟩ hmx Tryz.func82 rfl (by kernel_rfl) (args := [.agg #[.int .u16 b, .int .i64 n]]) (by simp [Tryz.ntmps82]) w (· = .tuple #[.agg #[.int .u16 (popS (goodS 16 b n)).1, .int .i64 (popS (goodS 16 b n)).2], .bool (topS (goodS 16 b n))]) 400 ?_).mono fun e w' ⟨v, h1, h2, h3⟩ => ⟨h2 ▸ h1, h3⟩
  have hll := listS_le (m := 16) (b := b) (n := n)
  have hlaw := pop_law (m := 16) (n := n) hpre.1
  have hlen := listS_len (m := 16) (b := b) (n := n)
  simp (maxSteps := 4000000) -dsimp [-Y1, -Array.all_eq_true, -Y3, -Y4, and_assoc, Y5, Tryz.f82, sBitListG, l1StackK, Con.gen]
  intro b1 b2
  refine sBitListG_at hpre ?_
  rintro cx1 c mem1 ⟨hle1, B1, bid, cap, pad, rfl, rfl, hc1, hc2, h3⟩
  generalize listS 16 b n = l at *
  have hw := hle1.w0
  have hg := hle1.g0
  rcases List.eq_nil_or_concat l with rfl | ⟨l', x, rfl⟩
  · obtain ⟨e1, e2⟩ := hlaw
    rw [← e1, ← e2]
    simp (maxSteps := 4000000) -dsimp [-Y1, -Array.all_eq_true, -Y3, -Y4, and_assoc, Y5, Tryz.f82, sBitListG, l1StackK, hw, hg, stackS, valL]
  · rw [List.concat_eq_append] at *
    obtain ⟨e1, e2⟩ := hlaw
    rw [List.dropLast_concat] at e1
    rw [List.getLast?_concat] at e2
    have hx : (l' ++ [x])[l'.length]? = some x := by simp
    have hld := boolC_get (pad := pad) hx
    have hl1 : (l' ++ [x]).length = l'.length + 1 := by simp
    have hlq : l'.length < (boolC (l' ++ [x]) ++ pad).length := (List.getElem?_eq_some_iff.1 hld).1
    have hle := (List.getElem?_eq_some_iff.1 hld).2
    rw [hl1] at hlen hll hc1 h3
    have hc3 : (l'.length : Int) ≤ cap := by omega
    have hc4 : cap ≤ 9223372036854775807 := by unfold maxLen at hc2; omega
    have hn0 : ¬ (l'.length : Int) + 1 = 0 := by omega
    have hw1 : IntKind.i64.wrap ((l'.length : Int) + 1 - 1) = l'.length := by rw [wrap_i64 (by omega) (by omega)]; omega
    have hw2 : IntKind.i64.wrap (l'.length : Int) = l'.length := wrap_i64 (by omega) (by omega)
    have e2' : topS (goodS 16 b n) = x := by rw [← e2]; rfl
    have hlt0 : (l'.length : Int) < (l'.length : Int) + 1 := by omega
    rw [hl1, ← e1, e2']
    simp (maxSteps := 4000000) -dsimp [-Y1, -Array.all_eq_true, -Y3, -Y4, and_assoc, Y5, Tryz.f82, sBitListG, l1StackK, hn0, hw1, hw2, hc3, hc4, hld, hle, hlq, hlt0, l1StackT]
    refine l1StackK_use (l := l') (pad := .v (.bool x) :: pad) rfl (by simp [boolC_snoc]) (by omega) fun cx2 hle2 => ?_
    have hw3 := (hle1.trans hle2).w0
    have hg3 := (hle1.trans hle2).g0
    simp (maxSteps := 4000000) -dsimp [-Y1, -Array.all_eq_true, -Y3, -Y4, and_assoc, Y5, Tryz.f82, sBitListG, l1StackK, hn0, hw1, hw2, hc3, hc4, hld, hle, hlq, hlt0, hw3, hg3]
def sBitPopC : Con Tryz.prog := Con.pure 82 Tryz.call82 (fun (i : ((Int) × (Int))) => match i with | (b, n) => [.agg #[.int .u16 b, .int .i64 n]]) (fun (i : ((Int) × (Int))) => match i with | (b, n) => 0 ≤ b ∧ b < 65536) (fun (i : ((Int) × (Int))) => match i with | (b, n) => .tuple #[.agg #[.int .u16 (popS (goodS 16 b n)).1, .int .i64 (popS (goodS 16 b n)).2], .bool (topS (goodS 16 b n))]) fun i w hp => sBitPopC_c i.1 i.2 hp w
theorem sBitTopC_c (b n : Int) (hpre : 0 ≤ b ∧ b < 65536) (w : World) : Calls Tryz.prog 84 #[.agg #[.int .u16 b, .int .i64 n]] w fun e w' => e = .returned (.bool (topS (goodS 16 b n))) ∧ RowKit.Below w.heap.size w w' := by
  refine (plain_of_vcs ⟨[sBitListG], []⟩ hmx Tryz.func84 rfl (by kernel_rfl) (args := [.agg #[.int .u16 b, .int .i64 n]]) (by simp [Tryz.ntmps84]) w (· = .bool (topS (goodS 16 b n))) 400 ?_).mono fun e w' ⟨v, h1, h2, h3⟩ => ⟨h2 ▸ h1, h3⟩
  have hll := listS_le (m := 16) (b := b) (n := n)
  have hlaw := (pop_law (m := 16) (n := n) hpre.1).2
  simp (maxSteps := 4000000) -dsimp [-Y1, -Array.all_eq_true, -Y3, -Y4, and_assoc, Y5, Tryz.f84, sBitListG, Con.gen]
  intro b1
  refine sBitListG_at hpre ?_
  rintro cx1 c mem1 ⟨hle1, B1, bid, cap, pad, rfl, rfl, hc1, hc2, h3⟩
  generalize listS 16 b n = l at *
  have hw := hle1.w0
  have hg := hle1.g0
  rcases List.eq_nil_or_concat l with rfl | ⟨l', x, rfl⟩
  · rw [← hlaw]
    simp (maxSteps := 4000000) -dsimp [-Y1, -Array.all_eq_true, -Y3, -Y4, and_assoc, Y5, Tryz.f84, sBitListG, hw, hg]
  · rw [List.concat_eq_append] at *
    rw [List.getLast?_concat] at hlaw
    have hx : (l' ++ [x])[l'.length]? = some x := by simp
    have hld := boolC_get (pad := pad) hx
    have hl1 : (l' ++ [x]).length = l'.length + 1 := by simp
    have hlq : l'.length < (boolC (l' ++ [x]) ++ pad).length := (List.getElem?_eq_some_iff.1 hld).1
    have hle := (List.getElem?_eq_some_iff.1 hld).2
    rw [hl1] at hll
    have hn0 : (0 : Int) < (l'.length : Int) + 1 := by omega
    have hw1 : IntKind.i64.wrap ((l'.length : Int) + 1 - 1) = l'.length := by rw [wrap_i64 (by omega) (by omega)]; omega
    have hw2 : IntKind.i64.wrap (l'.length : Int) = l'.length := wrap_i64 (by omega) (by omega)
    have hlt0 : (l'.length : Int) < (l'.length : Int) + 1 := by omega
    have e2' : topS (goodS 16 b n) = x := by rw [← hlaw]; rfl
    rw [hl1, e2']
    simp (maxSteps := 4000000) -dsimp [-Y1, -Array.all_eq_true, -Y3, -Y4, and_assoc, Y5, Tryz.f84, sBitListG, hn0, hw1, hw2, hld, hle, hlq, hlt0, hw, hg]
def sBitTopC : Con Tryz.prog := Con.pure 84 Tryz.call84 (fun (i : ((Int) × (Int))) => match i with | (b, n) => [.agg #[.int .u16 b, .int .i64 n]]) (fun (i : ((Int) × (Int))) => match i with | (b, n) => 0 ≤ b ∧ b < 65536) (fun (i : ((Int) × (Int))) => match i with | (b, n) => .bool (topS (goodS 16 b n))) fun i w hp => sBitTopC_c i.1 i.2 hp w
theorem sBitTurnC_c (b n : Int) (y : Bool) (hpre : 0 ≤ b ∧ b < 65536) (w : World) : Calls Tryz.prog 83 #[.agg #[.int .u16 b, .int .i64 n], .bool y] w fun e w' => e = .returned (.agg #[.int .u16 (turnS (goodS 16 b n) y).1, .int .i64 (turnS (goodS 16 b n) y).2]) ∧ RowKit.Below w.heap.size w w' := by
  refine (plain_of_vcs ⟨[sBitListG, l1StackG], []⟩ hmx Tryz.func83 rfl (by kernel_rfl) (args := [.agg #[.int .u16 b, .int .i64 n], .bool y]) (by simp [Tryz.ntmps83]) w (· = .agg #[.int .u16 (turnS (goodS 16 b n) y).1, .int .i64 (turnS (goodS 16 b n) y).2]) 400 ?_).mono fun e w' ⟨v, h1, h2, h3⟩ => ⟨h2 ▸ h1, h3⟩
  have hll := listS_le (m := 16) (b := b) (n := n)
  have hlaw := turn_law (m := 16) (n := n) hpre.1 y
  have hlen := listS_len (m := 16) (b := b) (n := n)
  simp (maxSteps := 4000000) -dsimp [-Y1, -Array.all_eq_true, -Y3, -Y4, and_assoc, Y5, Tryz.f83, sBitListG, l1StackG, Con.gen]
  intro b1 b2
  refine sBitListG_at hpre ?_
  rintro cx1 c mem1 ⟨hle1, B1, bid, cap, pad, rfl, rfl, hc1, hc2, h3⟩
  generalize listS 16 b n = l at *
  have hw := hle1.w0
  have hg := hle1.g0
  rcases List.eq_nil_or_concat l with rfl | ⟨l', x, rfl⟩
  · have e : turnS (goodS 16 b n) y = (0, 0) := by
      unfold turnS
      rw [if_pos (by rw [← hlen]; rfl)]
    rw [e]
    simp (maxSteps := 4000000) -dsimp [-Y1, -Array.all_eq_true, -Y3, -Y4, and_assoc, Y5, Tryz.f83, sBitListG, l1StackG, hw, hg]
  · rw [List.concat_eq_append] at *
    have hlaw := hlaw (by simp)
    rw [List.dropLast_concat] at hlaw
    have hl1 : (l' ++ [x]).length = l'.length + 1 := by simp
    have hx : (l' ++ [x])[l'.length]? = some x := by simp
    have hld := boolC_get (pad := pad) hx
    have hlq : l'.length < (boolC (l' ++ [x]) ++ pad).length := (List.getElem?_eq_some_iff.1 hld).1
    rw [hl1] at hll
    have hn0 : ¬ (l'.length : Int) + 1 = 0 := by omega
    have hw1 : IntKind.i64.wrap ((l'.length : Int) + 1 - 1) = l'.length := by rw [wrap_i64 (by omega) (by omega)]; omega
    have hw2 : IntKind.i64.wrap (l'.length : Int) = l'.length := wrap_i64 (by omega) (by omega)
    have hlt0 : (l'.length : Int) < (l'.length : Int) + 1 := by omega
    have hset : (boolC (l' ++ [x]) ++ pad).set l'.length (.v (.bool y)) = boolC (l' ++ [y]) ++ pad := by
      rw [boolC_snoc, boolC_snoc, List.append_assoc, List.append_assoc, List.set_append_right _ _ (by rw [boolC_len]; omega), boolC_len]
      simp
    rw [hl1, ← hlaw]
    simp (maxSteps := 4000000) -dsimp [-Y1, -Array.all_eq_true, -Y3, -Y4, and_assoc, Y5, Tryz.f83, sBitListG, l1StackG, hn0, hw1, hw2, hlq, hlt0, hset]
    refine ⟨by rw [boolC_len, hl1]; omega, ?_⟩
    refine l1StackG_use (l := l' ++ [y]) (pad := pad) (by simp) rfl (by simp; omega) fun cx2 hle2 => ?_
    have hw3 := (hle1.trans hle2).w0
    have hg3 := (hle1.trans hle2).g0
    simp (maxSteps := 4000000) -dsimp [-Y1, -Array.all_eq_true, -Y3, -Y4, and_assoc, Y5, Tryz.f83, sBitListG, l1StackG, hw3, hg3]
def sBitTurnC : Con Tryz.prog := Con.pure 83 Tryz.call83 (fun (i : ((Int) × (Int) × (Bool))) => match i with | (b, n, y) => [.agg #[.int .u16 b, .int .i64 n], .bool y]) (fun (i : ((Int) × (Int) × (Bool))) => match i with | (b, n, y) => 0 ≤ b ∧ b < 65536) (fun (i : ((Int) × (Int) × (Bool))) => match i with | (b, n, y) => .agg #[.int .u16 (turnS (goodS 16 b n) y).1, .int .i64 (turnS (goodS 16 b n) y).2]) fun i w hp => sBitTurnC_c i.1 i.2.1 i.2.2 hp w
theorem okS_8 {b n : Int} (hb : b < 256) : okS 8 b n = (decide (n ≤ 8) && okS 16 b n) := by
  unfold okS
  rw [Bool.eq_iff_iff]
  simp only [Bool.and_eq_true, decide_eq_true_eq]
  constructor
  · rintro ⟨h1, h2, h3⟩; exact ⟨by omega, h1, by omega, h3⟩
  · rintro ⟨h1, h2, h3, h4⟩; exact ⟨h2, by omega, h4⟩
theorem good_8 {b n : Int} (hb : 0 ≤ b) : goodS 16 (goodS 8 b n).1 (goodS 8 b n).2 = goodS 8 b n := by
  have h := (SOk.good (m := 8) (n := n) hb).bd
  refine okS_good (okS_iff.2 ⟨h.2.2.1, ?_, h.2.2.2.2⟩)
  have := h.2.2.2.1
  omega
theorem push_8 {s : Int × Int} (h : SOk 8 s) (x : Bool) : ((pushS 16 s x).1 % 256, min (pushS 16 s x).2 8) = pushS 8 s x ∧ 0 ≤ (pushS 16 s x).1 ∧ (pushS 16 s x).1 < 65536 ∧ 0 ≤ (pushS 16 s x).2 ∧ (pushS 16 s x).2 ≤ 16 := by
  have hb := h.bd
  have hx := b2i_bd x
  unfold pushS
  simp only
  refine ⟨?_, ?_, ?_, ?_, ?_⟩
  · congr 1 <;> omega
  all_goals omega
theorem pop_8 {s : Int × Int} (h : SOk 8 s) : ((popS s).1 % 256, min (popS s).2 8) = popS s ∧ 0 ≤ (popS s).1 ∧ (popS s).1 < 65536 ∧ 0 ≤ (popS s).2 ∧ (popS s).2 ≤ 16 := by
  have hb := h.bd
  have hp := h.pop.bd
  refine ⟨?_, by omega, by omega, by omega, by omega⟩
  exact Prod.ext (show (popS s).1 % 256 = (popS s).1 by omega) (show min (popS s).2 8 = (popS s).2 by omega)
theorem sForkOkC_c (b n : Int) (hpre : 0 ≤ b ∧ b < 256) (w : World) : Calls Tryz.prog 31 #[.agg #[.int .u8 b, .int .i64 n]] w fun e w' => e = .returned (.bool (okS 8 b n)) ∧ RowKit.Below w.heap.size w w' := by
  refine (plain_of_vcs ⟨[sBitOkC], []⟩ hmx Tryz.func31 rfl (by kernel_rfl) (args := [.agg #[.int .u8 b, .int .i64 n]]) (by simp [Tryz.ntmps31]) w (· = .bool (okS 8 b n)) 400 ?_).mono fun e w' ⟨v, h1, h2, h3⟩ => ⟨h2 ▸ h1, h3⟩
  obtain ⟨hb, hb2⟩ := hpre
  have e1 : IntKind.u16.wrap b = b := wrap_u16 (by omega) (by omega)
  have hb3 : b < 65536 := by omega
  have e := okS_8 (n := n) hb2
  by_cases h : n ≤ 8
  · simp (maxSteps := 4000000) -dsimp [-Y1, -Array.all_eq_true, -Y3, -Y4, and_assoc, Y5, Tryz.f31, sBitOkC, h, hb, hb3, e, e1]
  · simp (maxSteps := 4000000) -dsimp [-Y1, -Array.all_eq_true, -Y3, -Y4, and_assoc, Y5, Tryz.f31, sBitOkC, h, hb, hb3, e, e1]
def sForkOkC : Con Tryz.prog := Con.pure 31 Tryz.call31 (fun (i : ((Int) × (Int))) => match i with | (b, n) => [.agg #[.int .u8 b, .int .i64 n]]) (fun (i : ((Int) × (Int))) => match i with | (b, n) => 0 ≤ b ∧ b < 256) (fun (i : ((Int) × (Int))) => match i with | (b, n) => .bool (okS 8 b n)) fun i w hp => sForkOkC_c i.1 i.2 hp w
theorem l1WideC_c (b n : Int) (hpre : 0 ≤ b ∧ b < 256) (w : World) : Calls Tryz.prog 157 #[.agg #[.int .u8 b, .int .i64 n]] w fun e w' => e = .returned (.agg #[.int .u16 (goodS 8 b n).1, .int .i64 (goodS 8 b n).2]) ∧ RowKit.Below w.heap.size w w' := by
  refine (plain_of_vcs ⟨[sForkOkC], []⟩ hmx Tryz.func157 rfl (by kernel_rfl) (args := [.agg #[.int .u8 b, .int .i64 n]]) (by simp [Tryz.ntmps157]) w (· = .agg #[.int .u16 (goodS 8 b n).1, .int .i64 (goodS 8 b n).2]) 400 ?_).mono fun e w' ⟨v, h1, h2, h3⟩ => ⟨h2 ▸ h1, h3⟩
  obtain ⟨hb, hb2⟩ := hpre
  have e1 : IntKind.u16.wrap b = b := wrap_u16 (by omega) (by omega)
  cases h : okS 8 b n
  · simp (maxSteps := 4000000) -dsimp [-Y1, -Array.all_eq_true, -Y3, -Y4, and_assoc, Y5, Tryz.f157, sForkOkC, h, hb, hb2, goodS, e1]
  · simp (maxSteps := 4000000) -dsimp [-Y1, -Array.all_eq_true, -Y3, -Y4, and_assoc, Y5, Tryz.f157, sForkOkC, h, hb, hb2, goodS, e1]
def l1WideC : Con Tryz.prog := Con.pure 157 Tryz.call157 (fun (i : ((Int) × (Int))) => match i with | (b, n) => [.agg #[.int .u8 b, .int .i64 n]]) (fun (i : ((Int) × (Int))) => match i with | (b, n) => 0 ≤ b ∧ b < 256) (fun (i : ((Int) × (Int))) => match i with | (b, n) => .agg #[.int .u16 (goodS 8 b n).1, .int .i64 (goodS 8 b n).2]) fun i w hp => l1WideC_c i.1 i.2 hp w
theorem l1SmallC_c (b n : Int) (hpre : 0 ≤ b ∧ b < 65536) (w : World) : Calls Tryz.prog 141 #[.agg #[.int .u16 b, .int .i64 n]] w fun e w' => e = .returned (.agg #[.int .u8 (b % 256), .int .i64 (min n 8)]) ∧ RowKit.Below w.heap.size w w' := by
  refine (plain_of_vcs ⟨[], []⟩ hmx Tryz.func141 rfl (by kernel_rfl) (args := [.agg #[.int .u16 b, .int .i64 n]]) (by simp [Tryz.ntmps141]) w (· = .agg #[.int .u8 (b % 256), .int .i64 (min n 8)]) 400 ?_).mono fun e w' ⟨v, h1, h2, h3⟩ => ⟨h2 ▸ h1, h3⟩
  obtain ⟨hb, hb2⟩ := hpre
  have e1 : b.tmod 256 = b % 256 := Int.tmod_eq_emod_of_nonneg hb
  have e2 : IntKind.u8.wrap (b % 256) = b % 256 := wrap_u8 (by omega) (by omega)
  by_cases h : 8 < n
  · have e3 : min n 8 = 8 := by omega
    simp (maxSteps := 4000000) -dsimp [-Y1, -Array.all_eq_true, -Y3, -Y4, and_assoc, Y5, Tryz.f141, h, e1, e2, e3]
  · have e3 : min n 8 = n := by omega
    simp (maxSteps := 4000000) -dsimp [-Y1, -Array.all_eq_true, -Y3, -Y4, and_assoc, Y5, Tryz.f141, h, e1, e2, e3]
def l1SmallC : Con Tryz.prog := Con.pure 141 Tryz.call141 (fun (i : ((Int) × (Int))) => match i with | (b, n) => [.agg #[.int .u16 b, .int .i64 n]]) (fun (i : ((Int) × (Int))) => match i with | (b, n) => 0 ≤ b ∧ b < 65536) (fun (i : ((Int) × (Int))) => match i with | (b, n) => .agg #[.int .u8 (b % 256), .int .i64 (min n 8)]) fun i w hp => l1SmallC_c i.1 i.2 hp w
theorem sForkPushC_c (b n : Int) (x : Bool) (hpre : 0 ≤ b ∧ b < 256) (w : World) : Calls Tryz.prog 85 #[.agg #[.int .u8 b, .int .i64 n], .bool x] w fun e w' => e = .returned (.agg #[.int .u8 (pushS 8 (goodS 8 b n) x).1, .int .i64 (pushS 8 (goodS 8 b n) x).2]) ∧ RowKit.Below w.heap.size w w' := by
  refine (plain_of_vcs ⟨[l1WideC, sBitPushC, l1SmallC], []⟩ hmx Tryz.func85 rfl (by kernel_rfl) (args := [.agg #[.int .u8 b, .int .i64 n], .bool x]) (by simp [Tryz.ntmps85]) w (· = .agg #[.int .u8 (pushS 8 (goodS 8 b n) x).1, .int .i64 (pushS 8 (goodS 8 b n) x).2]) 400 ?_).mono fun e w' ⟨v, h1, h2, h3⟩ => ⟨h2 ▸ h1, h3⟩
  have ho := SOk.good (m := 8) (n := n) hpre.1
  have hb := ho.bd
  have hg8 := good_8 (n := n) hpre.1
  obtain ⟨e1, e2, e3, e4, e5⟩ := push_8 ho x
  rw [← e1]
  have hb1 : (goodS 8 b n).1 < 65536 := by omega
  simp (maxSteps := 4000000) -dsimp [-Y1, -Array.all_eq_true, -Y3, -Y4, and_assoc, Y5, Tryz.f85, l1WideC, sBitPushC, l1SmallC, hpre, hb, hb1, hg8, e2, e3]
def sForkPushC : Con Tryz.prog := Con.pure 85 Tryz.call85 (fun (i : ((Int) × (Int) × (Bool))) => match i with | (b, n, x) => [.agg #[.int .u8 b, .int .i64 n], .bool x]) (fun (i : ((Int) × (Int) × (Bool))) => match i with | (b, n, x) => 0 ≤ b ∧ b < 256) (fun (i : ((Int) × (Int) × (Bool))) => match i with | (b, n, x) => .agg #[.int .u8 (pushS 8 (goodS 8 b n) x).1, .int .i64 (pushS 8 (goodS 8 b n) x).2]) fun i w hp => sForkPushC_c i.1 i.2.1 i.2.2 hp w
theorem sForkPopC_c (b n : Int) (hpre : 0 ≤ b ∧ b < 256) (w : World) : Calls Tryz.prog 87 #[.agg #[.int .u8 b, .int .i64 n]] w fun e w' => e = .returned (.tuple #[.agg #[.int .u8 (popS (goodS 8 b n)).1, .int .i64 (popS (goodS 8 b n)).2], .bool (topS (goodS 8 b n))]) ∧ RowKit.Below w.heap.size w w' := by
  refine (plain_of_vcs ⟨[l1WideC, sBitPopC, l1SmallC], []⟩ hmx Tryz.func87 rfl (by kernel_rfl) (args := [.agg #[.int .u8 b, .int .i64 n]]) (by simp [Tryz.ntmps87]) w (· = .tuple #[.agg #[.int .u8 (popS (goodS 8 b n)).1, .int .i64 (popS (goodS 8 b n)).2], .bool (topS (goodS 8 b n))]) 400 ?_).mono fun e w' ⟨v, h1, h2, h3⟩ => ⟨h2 ▸ h1, h3⟩
  have ho := SOk.good (m := 8) (n := n) hpre.1
  have hb := ho.bd
  have hg8 := good_8 (n := n) hpre.1
  obtain ⟨e1, e2, e3, e4, e5⟩ := pop_8 ho
  have hb1 : (goodS 8 b n).1 < 65536 := by omega
  have f1 : (popS (goodS 8 b n)).1 % 256 = (popS (goodS 8 b n)).1 := congrArg Prod.fst e1
  have f2 : min (popS (goodS 8 b n)).2 8 = (popS (goodS 8 b n)).2 := congrArg Prod.snd e1
  simp (maxSteps := 4000000) -dsimp [-Y1, -Array.all_eq_true, -Y3, -Y4, and_assoc, Y5, Tryz.f87, l1WideC, sBitPopC, l1SmallC, hpre, hb, hb1, hg8, e2, e3, f1, f2]
def sForkPopC : Con Tryz.prog := Con.pure 87 Tryz.call87 (fun (i : ((Int) × (Int))) => match i with | (b, n) => [.agg #[.int .u8 b, .int .i64 n]]) (fun (i : ((Int) × (Int))) => match i with | (b, n) => 0 ≤ b ∧ b < 256) (fun (i : ((Int) × (Int))) => match i with | (b, n) => .tuple #[.agg #[.int .u8 (popS (goodS 8 b n)).1, .int .i64 (popS (goodS 8 b n)).2], .bool (topS (goodS 8 b n))]) fun i w hp => sForkPopC_c i.1 i.2 hp w
theorem sForkTopC_c (b n : Int) (hpre : 0 ≤ b ∧ b < 256) (w : World) : Calls Tryz.prog 86 #[.agg #[.int .u8 b, .int .i64 n]] w fun e w' => e = .returned (.bool (topS (goodS 8 b n))) ∧ RowKit.Below w.heap.size w w' := by
  refine (plain_of_vcs ⟨[l1WideC, sBitTopC], []⟩ hmx Tryz.func86 rfl (by kernel_rfl) (args := [.agg #[.int .u8 b, .int .i64 n]]) (by simp [Tryz.ntmps86]) w (· = .bool (topS (goodS 8 b n))) 400 ?_).mono fun e w' ⟨v, h1, h2, h3⟩ => ⟨h2 ▸ h1, h3⟩
  have ho := SOk.good (m := 8) (n := n) hpre.1
  have hb := ho.bd
  have hg8 := good_8 (n := n) hpre.1
  have hb1 : (goodS 8 b n).1 < 65536 := by omega
  simp (maxSteps := 4000000) -dsimp [-Y1, -Array.all_eq_true, -Y3, -Y4, and_assoc, Y5, Tryz.f86, l1WideC, sBitTopC, hpre, hb, hb1, hg8]
def sForkTopC : Con Tryz.prog := Con.pure 86 Tryz.call86 (fun (i : ((Int) × (Int))) => match i with | (b, n) => [.agg #[.int .u8 b, .int .i64 n]]) (fun (i : ((Int) × (Int))) => match i with | (b, n) => 0 ≤ b ∧ b < 256) (fun (i : ((Int) × (Int))) => match i with | (b, n) => .bool (topS (goodS 8 b n))) fun i w hp => sForkTopC_c i.1 i.2 hp w
end Go.Proofs.YtfhnbdlkiemaeaaGreat
