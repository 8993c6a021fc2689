/-
  Contracts: two memories are compared.
-/
import Derived.Test.YtclbanhoiaieaaaGreatDoorPvc
import Derived.Test.YtclbanhoiaieaaaGreatDoorFactsvc
set_option linter.unusedVariables false
set_option linter.unusedSimpArgs false
set_option maxRecDepth 100000
set_option maxHeartbeats 4000000
namespace Go.Proofs.YtclbanhoiaieaaaGreatDoor
open Go Go.Sx
open List renaming all_eq_true → Y1, zipIdx → Y5
open Bool renaming exists_bool → Y3, forall_bool → Y4
attribute [local simp] Sx.vcsE1 Sx.vcsE2 Sx.vcsE3 Sx.vcsE4 Sx.vcsE5 Sx.vcsE6 Sx.vcsE7 Sx.vcsE8 Sx.vcsE9 Sx.vcsE10 Sx.vcsE11 Sx.vcsE12 Sx.vcsE13 Sx.vcsE14 Sx.vcsE15 Sx.vcsE16 Sx.vcsE17 Sx.vcsE18 Sx.vcsE19 Sx.get Sx.look Sx.put Sx.pureFn Sx.findOrd Sx.unF Sx.dstOk Sx.isFloatT Sx.endVC Sx.resFn Sx.packC Sx.newFn Sx.storeFn Sx.buildFn Sx.known Sx.aggT Sx.cellsC Sx.findCon Sx.allV Sx.partsV Sx.partsC Sx.fillL Sx.exitTo Sx.fAr Sx.eqFn Sx.eqFieldsFn Sx.eqElemsFn Sx.partFn Sx.sliceFn Sx.boundFn Sx.AppV Sx.CopyV Sx.MakeSliceV Sx.NewsV Sx.GrowV Sx.TextV Sx.bytesL Sx.notInt Sx.typeAt Sx.argAt Sx.den Go.undef Go.Value.cells Go.Value.oneCell' Sx.Con.pure Sx.Con.some Sx.Con.read Sx.Con.make Sx.Con.ext Sx.Con.rel Sx.Con.extS Sx.Con.draw Sx.Con.step Sx.C.one Sx.Draws.steps

theorem withinC_c (a b c : Int) (w : World) : Calls Tryz.prog 133 #[.int .i64 a, .int .i64 b, .int .i64 c] w fun e w' => e = .returned (.bool (decide (b ≤ a ∧ a ≤ c))) ∧ RowKit.Below w.heap.size w w' := by
  refine (plain_of_vcs ⟨[], []⟩ hmx Tryz.func133 rfl (by kernel_rfl) (args := [.int .i64 a, .int .i64 b, .int .i64 c]) (by simp [Tryz.ntmps133]) w (· = .bool (decide (b ≤ a ∧ a ≤ c))) 400 ?_).mono fun e w' ⟨v, h1, h2, h3⟩ => ⟨h2 ▸ h1, h3⟩
  simp (maxSteps := 4000000) -dsimp [-Y1, -Array.all_eq_true, -Y3, -Y4, and_assoc, Y5, Tryz.f133]
  omega
def withinC : Con Tryz.prog := Con.pure 133 Tryz.call133 (fun (i : ((Int) × (Int) × (Int))) => match i with | (a, b, c) => [.int .i64 a, .int .i64 b, .int .i64 c]) (fun (i : ((Int) × (Int) × (Int))) => match i with | (a, b, c) => True) (fun (i : ((Int) × (Int) × (Int))) => match i with | (a, b, c) => .bool (decide (b ≤ a ∧ a ≤ c))) fun i w _ => withinC_c i.1 i.2.1 i.2.2 w
theorem isDevC_c (k : Int) (w : World) : Calls Tryz.prog 146 #[.int .i64 k] w fun e w' => e = .returned (.bool (decide (1 ≤ k ∧ k ≤ 10))) ∧ RowKit.Below w.heap.size w w' := by
  refine (plain_of_vcs ⟨[withinC], []⟩ hmx Tryz.func146 rfl (by kernel_rfl) (args := [.int .i64 k]) (by simp [Tryz.ntmps146]) w (· = .bool (decide (1 ≤ k ∧ k ≤ 10))) 400 ?_).mono fun e w' ⟨v, h1, h2, h3⟩ => ⟨h2 ▸ h1, h3⟩
  simp (maxSteps := 4000000) -dsimp [-Y1, -Array.all_eq_true, -Y3, -Y4, and_assoc, Y5, Tryz.f146, withinC]
def isDevC : Con Tryz.prog := Con.pure 146 Tryz.call146 (fun (k : ((Int))) => [.int .i64 k]) (fun (k : ((Int))) => True) (fun (k : ((Int))) => .bool (decide (1 ≤ k ∧ k ≤ 10))) fun k w _ => isDevC_c k w
theorem devSizeC_c (k : Int) (w : World) : Calls Tryz.prog 60 #[.int .i64 k] w fun e w' => e = .returned (.int .i64 (devSize k)) ∧ RowKit.Below w.heap.size w w' := by
  refine (plain_of_vcs ⟨[isDevC], []⟩ hmx Tryz.func60 rfl (by kernel_rfl) (args := [.int .i64 k]) (by simp [Tryz.ntmps60]) w (· = .int .i64 (devSize k)) 400 ?_).mono fun e w' ⟨v, h1, h2, h3⟩ => ⟨h2 ▸ h1, h3⟩
  simp (maxSteps := 4000000) -dsimp [-Y1, -Array.all_eq_true, -Y3, -Y4, and_assoc, Y5, Tryz.f60, isDevC]
  refine ⟨fun h => (devSize_out h).symm, fun h1 h2 => ?_⟩
  obtain ⟨h3, h4, h5⟩ := devSize_tab h1 h2
  rw [h5]
  exact ⟨⟨h3, h4⟩, rfl⟩
def devSizeC : Con Tryz.prog := Con.pure 60 Tryz.call60 (fun (k : ((Int))) => [.int .i64 k]) (fun (k : ((Int))) => True) (fun (k : ((Int))) => .int .i64 (devSize k)) fun k w _ => devSizeC_c k w
theorem givenC_c (m : M) (k : Int) (hpre : MOk m) (w : World) : Calls Tryz.prog 148 #[.agg (cells m), .int .i64 k] w fun e w' => e = .returned (.bool (given m k)) ∧ RowKit.Below w.heap.size w w' := by
  refine (plain_of_vcs ⟨[], []⟩ hmx Tryz.func148 rfl (by kernel_rfl) (args := [.agg (cells m), .int .i64 k]) (by simp [Tryz.ntmps148]) w (· = .bool (given m k)) 400 ?_).mono fun e w' ⟨v, h1, h2, h3⟩ => ⟨h2 ▸ h1, h3⟩
  simp (maxSteps := 4000000) -dsimp [-Y1, -Array.all_eq_true, -Y3, -Y4, and_assoc, Y5, Tryz.f148]
  have := Int.tmod_eq_emod_of_nonneg hpre.Time.1 (b := 1000)
  simp +contextual [given, this]
def givenC : Con Tryz.prog := Con.pure 148 Tryz.call148 (fun (i : ((M) × (Int))) => match i with | (m, k) => [.agg (cells m), .int .i64 k]) (fun (i : ((M) × (Int))) => match i with | (m, k) => MOk m) (fun (i : ((M) × (Int))) => match i with | (m, k) => .bool (given m k)) fun i w hp => givenC_c i.1 i.2 hp w
theorem placeC_c (k n p : Int) (hpre : 1 ≤ k ∧ k ≤ 10) (w : World) : Calls Tryz.prog 147 #[.agg #[.int .i64 k, .int .i64 n, .int .i64 p]] w fun e w' => e = .returned (.int .i64 (place k n)) ∧ RowKit.Below w.heap.size w w' := by
  refine (plain_of_vcs ⟨[devSizeC], []⟩ hmx Tryz.func147 rfl (by kernel_rfl) (args := [.agg #[.int .i64 k, .int .i64 n, .int .i64 p]]) (by simp [Tryz.ntmps147]) w (· = .int .i64 (place k n)) 400 ?_).mono fun e w' ⟨v, h1, h2, h3⟩ => ⟨h2 ▸ h1, h3⟩
  obtain ⟨h1, h2⟩ := hpre
  have e := place_eq (n := n) h1 h2
  have hp := devSize_pos h1 h2
  simp (maxSteps := 4000000) -dsimp [-Y1, -Array.all_eq_true, -Y3, -Y4, and_assoc, Y5, Tryz.f147, devSizeC]
  by_cases h6 : k = 6
  · subst h6; simpa [ring] using e
  · simp only [h6, false_implies, true_and, not_false_iff, true_implies]
    simp only [ring, h6, if_false] at e
    exact ⟨by omega, e⟩
def placeC : Con Tryz.prog := Con.pure 147 Tryz.call147 (fun (i : ((Int) × (Int) × (Int))) => match i with | (k, n, p) => [.agg #[.int .i64 k, .int .i64 n, .int .i64 p]]) (fun (i : ((Int) × (Int) × (Int))) => match i with | (k, n, p) => 1 ≤ k ∧ k ≤ 10) (fun (i : ((Int) × (Int) × (Int))) => match i with | (k, n, p) => .int .i64 (place k n)) fun i w hp => placeC_c i.1 i.2.1 i.2.2 hp w
theorem memBitC_c (m : M) (k n p : Int) (hpre : MOk m) (w : World) : Calls Tryz.prog 61 #[.agg (cells m), .agg #[.int .i64 k, .int .i64 n, .int .i64 p]] w fun e w' => e = .returned (.bool (memBit m k n)) ∧ RowKit.Below w.heap.size w w' := by
  refine (plain_of_vcs ⟨[isDevC, placeC, givenC], []⟩ hmx Tryz.func61 rfl (by kernel_rfl) (args := [.agg (cells m), .agg #[.int .i64 k, .int .i64 n, .int .i64 p]]) (by simp [Tryz.ntmps61]) w (· = .bool (memBit m k n)) 400 ?_).mono fun e w' ⟨v, h1, h2, h3⟩ => ⟨h2 ▸ h1, h3⟩
  have hb := (place_bd k n).1
  obtain ⟨l1, l2, l3, l4, l5, l6, l7, l8, l9, l10⟩ := place_lt n
  by_cases hk : 1 ≤ k ∧ k ≤ 10
  · obtain rfl | rfl | rfl | rfl | rfl | rfl | rfl | rfl | rfl | rfl : k = 1 ∨ k = 2 ∨ k = 3 ∨ k = 4 ∨ k = 5 ∨ k = 6 ∨ k = 7 ∨ k = 8 ∨ k = 9 ∨ k = 10 := by omega
    all_goals simp (maxSteps := 4000000) -dsimp [-Y1, -Array.all_eq_true, -Y3, -Y4, and_assoc, Y5, Tryz.f61, isDevC, placeC, givenC, memBit, hpre, hb, l7, l8]
    · exact ⟨by rw [wrap_u64 hb (by omega)]; exact hb, bit_u32 hpre.X hb l1⟩
    · exact ⟨by rw [wrap_u64 hb (by omega)]; exact hb, bit_u32 hpre.Y hb l2⟩
    · exact ⟨by rw [wrap_u64 hb (by omega)]; exact hb, bit_u64 hpre.Mw hb l3⟩
    · exact ⟨by rw [wrap_u64 hb (by omega)]; exact hb, bit_u16 hpre.S hb l4⟩
    · exact ⟨by rw [wrap_u64 hb (by omega)]; exact hb, bit_u32 hpre.E hb l5⟩
    · rw [get_T0 m _ (by omega)]; simp
    · rw [get_C0 m _ (by omega)]; simp
  · have hm : memBit m k n = false := by unfold memBit; (repeat' rw [if_neg (by omega)])
    simp (maxSteps := 4000000) -dsimp [-Y1, -Array.all_eq_true, -Y3, -Y4, and_assoc, Y5, Tryz.f61, isDevC, placeC, givenC, hm]
    omega
def memBitC : Con Tryz.prog := Con.pure 61 Tryz.call61 (fun (i : ((M) × (Int) × (Int) × (Int))) => match i with | (m, k, n, p) => [.agg (cells m), .agg #[.int .i64 k, .int .i64 n, .int .i64 p]]) (fun (i : ((M) × (Int) × (Int) × (Int))) => match i with | (m, k, n, p) => MOk m) (fun (i : ((M) × (Int) × (Int) × (Int))) => match i with | (m, k, n, p) => .bool (memBit m k n)) fun i w hp => memBitC_c i.1 i.2.1 i.2.2.1 i.2.2.2 hp w
theorem sDevSizeC_c (k : Int) (w : World) : Calls Tryz.prog 189 #[.int .i64 k] w fun e w' => e = .returned (.int .i64 (devSize k)) ∧ RowKit.Below w.heap.size w w' := by
  refine (plain_of_vcs ⟨[], []⟩ hmx Tryz.func189 rfl (by kernel_rfl) (args := [.int .i64 k]) (by simp [Tryz.ntmps189]) w (· = .int .i64 (devSize k)) 400 ?_).mono fun e w' ⟨v, h1, h2, h3⟩ => ⟨h2 ▸ h1, h3⟩
  simp (maxSteps := 4000000) -dsimp [-Y1, -Array.all_eq_true, -Y3, -Y4, and_assoc, Y5, Tryz.f189]
  simp +contextual [devSize]
def sDevSizeC : Con Tryz.prog := Con.pure 189 Tryz.call189 (fun (k : ((Int))) => [.int .i64 k]) (fun (k : ((Int))) => True) (fun (k : ((Int))) => .int .i64 (devSize k)) fun k w _ => sDevSizeC_c k w
theorem l5AtC_c (k n p : Int) (w : World) : Calls Tryz.prog 188 #[.agg #[.int .i64 k, .int .i64 n, .int .i64 p]] w fun e w' => e = .returned (.int .i64 (place k n)) ∧ RowKit.Below w.heap.size w w' := by
  refine (plain_of_vcs ⟨[sDevSizeC], []⟩ hmx Tryz.func188 rfl (by kernel_rfl) (args := [.agg #[.int .i64 k, .int .i64 n, .int .i64 p]]) (by simp [Tryz.ntmps188]) w (· = .int .i64 (place k n)) 400 ?_).mono fun e w' ⟨v, h1, h2, h3⟩ => ⟨h2 ▸ h1, h3⟩
  simp (maxSteps := 4000000) -dsimp [-Y1, -Array.all_eq_true, -Y3, -Y4, and_assoc, Y5, Tryz.f188, sDevSizeC]
  have hb := ring_bd k
  have key : ring k ≠ 0 → (n.tmod (ring k) < 0 → IntKind.i64.wrap (n.tmod (ring k) + ring k) = place k n) ∧ (0 ≤ n.tmod (ring k) → n.tmod (ring k) = place k n) := fun h => place_two h
  by_cases h6 : k = 6
  · subst h6; exact ⟨fun _ => key (by decide), fun h => (h rfl).elim⟩
  · have e : ring k = devSize k := by simp [ring, h6]
    rw [e] at key
    refine ⟨fun h => (h6 h).elim, fun _ => ⟨fun h => ?_, fun h => ⟨h, key h⟩⟩⟩
    unfold place; rw [e, if_pos h]
def l5AtC : Con Tryz.prog := Con.pure 188 Tryz.call188 (fun (i : ((Int) × (Int) × (Int))) => match i with | (k, n, p) => [.agg #[.int .i64 k, .int .i64 n, .int .i64 p]]) (fun (i : ((Int) × (Int) × (Int))) => match i with | (k, n, p) => True) (fun (i : ((Int) × (Int) × (Int))) => match i with | (k, n, p) => .int .i64 (place k n)) fun i w _ => l5AtC_c i.1 i.2.1 i.2.2 w
theorem l5BitC_c (x k : Int) (hpre : 0 ≤ x ∧ x < 18446744073709551616 ∧ 0 ≤ k ∧ k < 64) (w : World) : Calls Tryz.prog 187 #[.int .u64 x, .int .i64 k] w fun e w' => e = .returned (.bool (bitOf x k.toNat)) ∧ RowKit.Below w.heap.size w w' := by
  refine (plain_of_vcs ⟨[], []⟩ hmx Tryz.func187 rfl (by kernel_rfl) (args := [.int .u64 x, .int .i64 k]) (by simp [Tryz.ntmps187]) w (· = .bool (bitOf x k.toNat)) 400 ?_).mono fun e w' ⟨v, h1, h2, h3⟩ => ⟨h2 ▸ h1, h3⟩
  obtain ⟨hx, hx2, hk, hk2⟩ := hpre
  simp (maxSteps := 4000000) -dsimp [-Y1, -Array.all_eq_true, -Y3, -Y4, and_assoc, Y5, Tryz.f187]
  refine loop_inv (σ := ⟨[], []⟩) hmx (by kernel_rfl) (fun m cx tm mem => cx = ⟨w, [], w, []⟩ ∧ mem = [] ∧ ∃ i : Nat, i ≤ k.toNat ∧ m = k.toNat - i ∧ Sx.look tm 5 = .v (.int .i64 i) ∧ Sx.look tm 0 = .v (.int .u64 (x / 2 ^ i)) ∧ Sx.look tm 1 = .v (.int .i64 k))
    k.toNat ⟨rfl, rfl, 0, by simp, rfl, by simp [Sx.look], by simp [Sx.look], by simp [Sx.look]⟩ ?_
  rintro m cx tm mem ⟨rfl, rfl, i, hi, rfl, h5, h0, h1⟩
  refine ⟨200, ?_⟩
  simp (maxSteps := 4000000) -dsimp [-Y1, -Array.all_eq_true, -Y3, -Y4, and_assoc, Y5, Tryz.f187, h5, h0, h1]
  have hq : 0 ≤ x / 2 ^ i := Int.ediv_nonneg hx (Int.pow_nonneg (by decide))
  have hq2 : x / 2 ^ i ≤ x := Int.ediv_le_self _ hx
  refine ⟨fun hlt => ⟨k.toNat - (i + 1), by omega, i + 1, by omega, rfl, ?_, ?_⟩, fun hge => ?_⟩
  · rw [wrap_i64 (by omega) (by omega)]; rfl
  · rw [Int.tdiv_eq_ediv_of_nonneg hq, wrap_u64 (by omega) (by omega), Int.pow_succ, Int.ediv_ediv_of_nonneg (Int.pow_nonneg (by decide))]
  · have : i = k.toNat := by omega
    subst this
    rw [Int.tmod_eq_emod_of_nonneg hq]
    unfold bitOf
    cases h : decide (x / 2 ^ k.toNat % 2 = 1) <;> simp_all
def l5BitC : Con Tryz.prog := Con.pure 187 Tryz.call187 (fun (i : ((Int) × (Int))) => match i with | (x, k) => [.int .u64 x, .int .i64 k]) (fun (i : ((Int) × (Int))) => match i with | (x, k) => 0 ≤ x ∧ x < 18446744073709551616 ∧ 0 ≤ k ∧ k < 64) (fun (i : ((Int) × (Int))) => match i with | (x, k) => .bool (bitOf x k.toNat)) fun i w hp => l5BitC_c i.1 i.2 hp w
theorem l5GivenC_c (m : M) (k : Int) (hpre : MOk m) (w : World) : Calls Tryz.prog 230 #[.agg (cells m), .int .i64 k] w fun e w' => e = .returned (.bool (given m k)) ∧ RowKit.Below w.heap.size w w' := by
  refine (plain_of_vcs ⟨[], []⟩ hmx Tryz.func230 rfl (by kernel_rfl) (args := [.agg (cells m), .int .i64 k]) (by simp [Tryz.ntmps230]) w (· = .bool (given m k)) 400 ?_).mono fun e w' ⟨v, h1, h2, h3⟩ => ⟨h2 ▸ h1, h3⟩
  simp (maxSteps := 4000000) -dsimp [-Y1, -Array.all_eq_true, -Y3, -Y4, and_assoc, Y5, Tryz.f230]
  have := Int.tmod_eq_emod_of_nonneg hpre.Time.1 (b := 1000)
  simp +contextual [given, this]
def l5GivenC : Con Tryz.prog := Con.pure 230 Tryz.call230 (fun (i : ((M) × (Int))) => match i with | (m, k) => [.agg (cells m), .int .i64 k]) (fun (i : ((M) × (Int))) => match i with | (m, k) => MOk m) (fun (i : ((M) × (Int))) => match i with | (m, k) => .bool (given m k)) fun i w hp => l5GivenC_c i.1 i.2 hp w
theorem sMemBitC_c (m : M) (k n p : Int) (hpre : MOk m) (w : World) : Calls Tryz.prog 190 #[.agg (cells m), .agg #[.int .i64 k, .int .i64 n, .int .i64 p]] w fun e w' => e = .returned (.bool (memBit m k n)) ∧ RowKit.Below w.heap.size w w' := by
  refine (plain_of_vcs ⟨[l5AtC, l5BitC, l5GivenC], []⟩ hmx Tryz.func190 rfl (by kernel_rfl) (args := [.agg (cells m), .agg #[.int .i64 k, .int .i64 n, .int .i64 p]]) (by simp [Tryz.ntmps190]) w (· = .bool (memBit m k n)) 400 ?_).mono fun e w' ⟨v, h1, h2, h3⟩ => ⟨h2 ▸ h1, h3⟩
  have hb := (place_bd k n).1
  have hb64 := (place_bd k n).2.2
  obtain ⟨l1, l2, l3, l4, l5, l6, l7, l8, l9, l10⟩ := place_lt n
  have w1 := fun x (h : 0 ≤ x ∧ x < 4294967296) => wrap_u64 (x := x) h.1 (by omega)
  have w2 := fun x (h : 0 ≤ x ∧ x < 65536) => wrap_u64 (x := x) h.1 (by omega)
  have hX := hpre.X; have hY := hpre.Y; have hM := hpre.Mw; have hS := hpre.S; have hE := hpre.E
  by_cases hk : 1 ≤ k ∧ k ≤ 8
  · obtain rfl | rfl | rfl | rfl | rfl | rfl | rfl | rfl : k = 1 ∨ k = 2 ∨ k = 3 ∨ k = 4 ∨ k = 5 ∨ k = 6 ∨ k = 7 ∨ k = 8 := by omega
    all_goals simp (maxSteps := 4000000) -dsimp [-Y1, -Array.all_eq_true, -Y3, -Y4, and_assoc, Y5, Tryz.f190, l5AtC, l5BitC, l5GivenC, memBit, hpre, hb, hb64, l7, l8, w1 m.X hX, w1 m.Y hY, w2 m.S hS, w1 m.E hE]
    · omega
    · omega
    · omega
    · omega
    · omega
    · rw [get_T0 m _ (by omega)]; simp
    · rw [get_C0 m _ (by omega)]; simp
  · have hm : memBit m k n = false := by unfold memBit; (repeat' rw [if_neg (by omega)])
    simp (maxSteps := 4000000) -dsimp [-Y1, -Array.all_eq_true, -Y3, -Y4, and_assoc, Y5, Tryz.f190, l5AtC, l5BitC, l5GivenC, hm]
    omega
def sMemBitC : Con Tryz.prog := Con.pure 190 Tryz.call190 (fun (i : ((M) × (Int) × (Int) × (Int))) => match i with | (m, k, n, p) => [.agg (cells m), .agg #[.int .i64 k, .int .i64 n, .int .i64 p]]) (fun (i : ((M) × (Int) × (Int) × (Int))) => match i with | (m, k, n, p) => MOk m) (fun (i : ((M) × (Int) × (Int) × (Int))) => match i with | (m, k, n, p) => .bool (memBit m k n)) fun i w hp => sMemBitC_c i.1 i.2.1 i.2.2.1 i.2.2.2 hp w

theorem bitC_c (b : Bool) (w : World) : Calls Tryz.prog 200 #[.bool b] w fun e w' => e = .returned (.int .u16 (if b then 1 else 0)) ∧ RowKit.Below w.heap.size w w' := by
  refine (plain_of_vcs ⟨[], []⟩ hmx Tryz.func200 rfl (by kernel_rfl) (args := [.bool b]) (by simp [Tryz.ntmps200]) w (· = .int .u16 (if b then 1 else 0)) 400 ?_).mono fun e w' ⟨v, h1, h2, h3⟩ => ⟨h2 ▸ h1, h3⟩
  cases b <;> simp (maxSteps := 4000000) -dsimp [-Y1, -Array.all_eq_true, -Y3, -Y4, and_assoc, Y5, Tryz.f200]
def bitC : Con Tryz.prog := Con.pure 200 Tryz.call200 (fun (b : ((Bool))) => [.bool b]) (fun (b : ((Bool))) => True) (fun (b : ((Bool))) => .int .u16 (if b then 1 else 0)) fun b w _ => bitC_c b w
theorem memPutC_c (m : M) (k n p : Int) (b : Bool) (hpre : MOk m) (w : World) : Calls Tryz.prog 134 #[.agg (cells m), .agg #[.int .i64 k, .int .i64 n, .int .i64 p], .bool b] w fun e w' => e = .returned (.agg (cells (memPut m k n b))) ∧ RowKit.Below w.heap.size w w' := by
  refine (plain_of_vcs ⟨[isDevC, placeC, bitC], []⟩ hmx Tryz.func134 rfl (by kernel_rfl) (args := [.agg (cells m), .agg #[.int .i64 k, .int .i64 n, .int .i64 p], .bool b]) (by simp [Tryz.ntmps134]) w (· = .agg (cells (memPut m k n b))) 400 ?_).mono fun e w' ⟨v, h1, h2, h3⟩ => ⟨h2 ▸ h1, h3⟩
  have hb := (place_bd k n).1
  obtain ⟨l1, l2, l3, l4, l5, l6, l7, l8, l9, l10⟩ := place_lt n
  by_cases hk : 1 ≤ k ∧ k ≤ 10
  · obtain rfl | rfl | rfl | rfl | rfl | rfl | rfl | rfl | rfl | rfl : k = 1 ∨ k = 2 ∨ k = 3 ∨ k = 4 ∨ k = 5 ∨ k = 6 ∨ k = 7 ∨ k = 8 ∨ k = 9 ∨ k = 10 := by omega
    all_goals cases b <;> simp (maxSteps := 4000000) -dsimp [-Y1, -Array.all_eq_true, -Y3, -Y4, and_assoc, Y5, Tryz.f134, isDevC, placeC, bitC, memPut, hpre, hb]
    · exact ⟨by rw [wrap_u64 hb (by omega)]; exact hb, put_k (b := 32) rfl (fun y h1 h2 => wrap_u32 h1 (by omega)) hpre.Y.1 (by have := hpre.Y.2; omega) hb l2 (by omega) (by decide)⟩
    · exact ⟨by rw [wrap_u64 hb (by omega)]; exact hb, put_k (b := 32) rfl (fun y h1 h2 => wrap_u32 h1 (by omega)) hpre.Y.1 (by have := hpre.Y.2; omega) hb l2 (by omega) (by decide)⟩
    · exact ⟨by rw [wrap_u64 hb (by omega)]; exact hb, put_k (b := 64) rfl (fun y h1 h2 => wrap_u64 h1 (by omega)) hpre.Mw.1 (by have := hpre.Mw.2; omega) hb l3 (by omega) (by decide)⟩
    · exact ⟨by rw [wrap_u64 hb (by omega)]; exact hb, put_k (b := 64) rfl (fun y h1 h2 => wrap_u64 h1 (by omega)) hpre.Mw.1 (by have := hpre.Mw.2; omega) hb l3 (by omega) (by decide)⟩
    · exact ⟨by rw [wrap_u64 hb (by omega)]; exact hb, put_k (b := 16) rfl (fun y h1 h2 => wrap_u16 h1 (by omega)) hpre.S.1 (by have := hpre.S.2; omega) hb l4 (by omega) (by decide)⟩
    · exact ⟨by rw [wrap_u64 hb (by omega)]; exact hb, put_k (b := 16) rfl (fun y h1 h2 => wrap_u16 h1 (by omega)) hpre.S.1 (by have := hpre.S.2; omega) hb l4 (by omega) (by decide)⟩
    · exact ⟨by rw [wrap_u64 hb (by omega)]; exact hb, put_k (b := 32) rfl (fun y h1 h2 => wrap_u32 h1 (by omega)) hpre.E.1 (by have := hpre.E.2; omega) hb l5 (by omega) (by decide)⟩
    · exact ⟨by rw [wrap_u64 hb (by omega)]; exact hb, put_k (b := 32) rfl (fun y h1 h2 => wrap_u32 h1 (by omega)) hpre.E.1 (by have := hpre.E.2; omega) hb l5 (by omega) (by decide)⟩
  · have hm : memPut m k n b = m := by unfold memPut; (repeat' rw [if_neg (by omega)])
    simp (maxSteps := 4000000) -dsimp [-Y1, -Array.all_eq_true, -Y3, -Y4, and_assoc, Y5, Tryz.f134, isDevC, placeC, bitC, hm]
    omega
def memPutC : Con Tryz.prog := Con.pure 134 Tryz.call134 (fun (i : ((M) × (Int) × (Int) × (Int) × (Bool))) => match i with | (m, k, n, p, b) => [.agg (cells m), .agg #[.int .i64 k, .int .i64 n, .int .i64 p], .bool b]) (fun (i : ((M) × (Int) × (Int) × (Int) × (Bool))) => match i with | (m, k, n, p, b) => MOk m) (fun (i : ((M) × (Int) × (Int) × (Int) × (Bool))) => match i with | (m, k, n, p, b) => .agg (cells (memPut m k n b))) fun i w hp => memPutC_c i.1 i.2.1 i.2.2.1 i.2.2.2.1 i.2.2.2.2 hp w
theorem l5TurnedC_c (x k : Int) (b : Bool) (hpre : 0 ≤ x ∧ x < 18446744073709551616 ∧ 0 ≤ k ∧ k < 64) (w : World) : Calls Tryz.prog 122 #[.int .u64 x, .int .i64 k, .bool b] w fun e w' => e = .returned (.int .u64 (putBit x k.toNat b)) ∧ RowKit.Below w.heap.size w w' := by
  refine (plain_of_vcs ⟨[l5BitC], []⟩ hmx Tryz.func122 rfl (by kernel_rfl) (args := [.int .u64 x, .int .i64 k, .bool b]) (by simp [Tryz.ntmps122]) w (· = .int .u64 (putBit x k.toNat b)) 400 ?_).mono fun e w' ⟨v, h1, h2, h3⟩ => ⟨h2 ▸ h1, h3⟩
  obtain ⟨hx, hx2, hk, hk2⟩ := hpre
  simp (maxSteps := 4000000) -dsimp [-Y1, -Array.all_eq_true, -Y3, -Y4, and_assoc, Y5, Tryz.f122, l5BitC, hx, hx2, hk, hk2]
  refine ⟨fun h => by simp [putBit, h], fun h => ?_⟩
  refine loop_inv (σ := ⟨[l5BitC], []⟩) hmx (by kernel_rfl) (fun m cx tm mem => cx = ⟨w, [], w, []⟩ ∧ mem = [] ∧ ∃ i : Nat, i ≤ k.toNat ∧ m = k.toNat - i ∧ Sx.look tm 8 = .v (.int .i64 i) ∧ Sx.look tm 7 = .v (.int .u64 (2 ^ i)) ∧ Sx.look tm 1 = .v (.int .i64 k) ∧ Sx.look tm 0 = .v (.int .u64 x) ∧ Sx.look tm 2 = .v (.bool b))
    k.toNat ⟨rfl, rfl, 0, by simp, rfl, by simp [Sx.look], by simp [Sx.look], by simp [Sx.look], by simp [Sx.look], by simp [Sx.look]⟩ ?_
  rintro m cx tm mem ⟨rfl, rfl, i, hi, rfl, h8, h7, h1, h0, h2⟩
  refine ⟨200, ?_⟩
  have hpow : ∀ i : Nat, i ≤ k.toNat → (0 : Int) ≤ 2 ^ i ∧ (2 : Int) ^ i < 18446744073709551616 := fun i hi => by
    have e1 : (2 : Nat) ^ i ≤ 2 ^ 63 := Nat.pow_le_pow_right (by omega) (by omega)
    have e2 : ((2 : Int) ^ i) = ((2 ^ i : Nat) : Int) := by push_cast; rfl
    rw [e2]
    have h3 : (2 : Nat) ^ i < 18446744073709551616 := Nat.lt_of_le_of_lt e1 (by decide)
    refine ⟨Int.natCast_nonneg _, ?_⟩
    generalize 2 ^ i = A at *
    omega
  have hpb := putBit_bd (x := x) (b := 64) (j := k.toNat) (c := b) hx (by omega) (by omega)
  unfold putBit at hpb
  rw [if_neg h] at hpb
  simp (maxSteps := 4000000) -dsimp [-Y1, -Array.all_eq_true, -Y3, -Y4, and_assoc, Y5, Tryz.f122, l5BitC, h8, h7, h1, h0, h2]
  refine ⟨fun hlt => ⟨k.toNat - (i + 1), by omega, i + 1, by omega, rfl, ?_, ?_⟩, fun hge => ?_⟩
  · rw [wrap_i64 (by omega) (by omega)]; rfl
  · have := hpow (i + 1) (by omega)
    rw [Int.pow_succ] at this
    rw [wrap_u64 (by omega) (by omega), Int.pow_succ]
  · have : i = k.toNat := by omega
    subst this
    unfold putBit
    rw [if_neg h]
    cases b
    · simp at hpb ⊢
      rw [wrap_u64 (by omega) (by omega)]
    · simp at hpb ⊢
      rw [wrap_u64 (by omega) (by omega)]
def l5TurnedC : Con Tryz.prog := Con.pure 122 Tryz.call122 (fun (i : ((Int) × (Int) × (Bool))) => match i with | (x, k, b) => [.int .u64 x, .int .i64 k, .bool b]) (fun (i : ((Int) × (Int) × (Bool))) => match i with | (x, k, b) => 0 ≤ x ∧ x < 18446744073709551616 ∧ 0 ≤ k ∧ k < 64) (fun (i : ((Int) × (Int) × (Bool))) => match i with | (x, k, b) => .int .u64 (putBit x k.toNat b)) fun i w hp => l5TurnedC_c i.1 i.2.1 i.2.2 hp w
theorem sMemPutC_c (m : M) (k n p : Int) (b : Bool) (hpre : MOk m) (w : World) : Calls Tryz.prog 123 #[.agg (cells m), .agg #[.int .i64 k, .int .i64 n, .int .i64 p], .bool b] w fun e w' => e = .returned (.agg (cells (memPut m k n b))) ∧ RowKit.Below w.heap.size w w' := by
  refine (plain_of_vcs ⟨[l5AtC, l5TurnedC], []⟩ hmx Tryz.func123 rfl (by kernel_rfl) (args := [.agg (cells m), .agg #[.int .i64 k, .int .i64 n, .int .i64 p], .bool b]) (by simp [Tryz.ntmps123]) w (· = .agg (cells (memPut m k n b))) 400 ?_).mono fun e w' ⟨v, h1, h2, h3⟩ => ⟨h2 ▸ h1, h3⟩
  have hb := (place_bd k n).1
  obtain ⟨l1, l2, l3, l4, l5, l6, l7, l8, l9, l10⟩ := place_lt n
  have hb64 := (place_bd k n).2.2
  by_cases hk : k = 2 ∨ k = 3 ∨ k = 4 ∨ k = 5
  · obtain rfl | rfl | rfl | rfl := hk
    · have e := putBit_bd (b := 32) (j := (place 2 n).toNat) (c := b) hpre.Y.1 (by have := hpre.Y.2; omega) (by omega)
      have hY := hpre.Y
      simp (maxSteps := 4000000) -dsimp [-Y1, -Array.all_eq_true, -Y3, -Y4, and_assoc, Y5, Tryz.f123, l5AtC, l5TurnedC, memPut, hpre, hb, hb64, wrap_u64 hY.1 (by omega)]
      rw [wrap_u32 e.1 (by omega)]; omega
    · have hY := hpre.Mw
      simp (maxSteps := 4000000) -dsimp [-Y1, -Array.all_eq_true, -Y3, -Y4, and_assoc, Y5, Tryz.f123, l5AtC, l5TurnedC, memPut, hpre, hb, hb64]
      omega
    · have e := putBit_bd (b := 16) (j := (place 4 n).toNat) (c := b) hpre.S.1 (by have := hpre.S.2; omega) (by omega)
      have hY := hpre.S
      simp (maxSteps := 4000000) -dsimp [-Y1, -Array.all_eq_true, -Y3, -Y4, and_assoc, Y5, Tryz.f123, l5AtC, l5TurnedC, memPut, hpre, hb, hb64, wrap_u64 hY.1 (by omega)]
      rw [wrap_u16 e.1 (by omega)]; omega
    · have e := putBit_bd (b := 32) (j := (place 5 n).toNat) (c := b) hpre.E.1 (by have := hpre.E.2; omega) (by omega)
      have hY := hpre.E
      simp (maxSteps := 4000000) -dsimp [-Y1, -Array.all_eq_true, -Y3, -Y4, and_assoc, Y5, Tryz.f123, l5AtC, l5TurnedC, memPut, hpre, hb, hb64, wrap_u64 hY.1 (by omega)]
      rw [wrap_u32 e.1 (by omega)]; omega
  · have hm : memPut m k n b = m := by unfold memPut; (repeat' rw [if_neg (by omega)])
    simp (maxSteps := 4000000) -dsimp [-Y1, -Array.all_eq_true, -Y3, -Y4, and_assoc, Y5, Tryz.f123, l5AtC, l5TurnedC, hm]
    omega
def sMemPutC : Con Tryz.prog := Con.pure 123 Tryz.call123 (fun (i : ((M) × (Int) × (Int) × (Int) × (Bool))) => match i with | (m, k, n, p, b) => [.agg (cells m), .agg #[.int .i64 k, .int .i64 n, .int .i64 p], .bool b]) (fun (i : ((M) × (Int) × (Int) × (Int) × (Bool))) => match i with | (m, k, n, p, b) => MOk m) (fun (i : ((M) × (Int) × (Int) × (Int) × (Bool))) => match i with | (m, k, n, p, b) => .agg (cells (memPut m k n b))) fun i w hp => sMemPutC_c i.1 i.2.1 i.2.2.1 i.2.2.2.1 i.2.2.2.2 hp w
end Go.Proofs.YtclbanhoiaieaaaGreatDoor

namespace Go.Proofs.YtclbanhoiaieaaaGreatDoor
open Go Go.Sx
attribute [local simp] Sx.vcsE1 Sx.vcsE2 Sx.vcsE3 Sx.vcsE4 Sx.vcsE5 Sx.vcsE6 Sx.vcsE7 Sx.vcsE8 Sx.vcsE9 Sx.vcsE10 Sx.vcsE11 Sx.vcsE12 Sx.vcsE13 Sx.vcsE14 Sx.vcsE15 Sx.vcsE16 Sx.vcsE17 Sx.vcsE18 Sx.vcsE19 Sx.get Sx.look Sx.put Sx.pureFn Sx.findOrd Sx.unF Sx.dstOk Sx.isFloatT Sx.endVC Sx.resFn Sx.packC Sx.newFn Sx.storeFn Sx.buildFn Sx.known Sx.aggT Sx.cellsC Sx.findCon Sx.allV Sx.partsV Sx.partsC Sx.fillL Sx.exitTo Sx.fAr Sx.eqFn Sx.eqFieldsFn Sx.eqElemsFn Sx.partFn Sx.sliceFn Sx.boundFn Sx.AppV Sx.CopyV Sx.MakeSliceV Sx.NewsV Sx.GrowV Sx.TextV Sx.bytesL Sx.notInt Sx.typeAt Sx.argAt Sx.den Go.undef Go.Value.cells Go.Value.oneCell' Sx.Con.pure Sx.Con.some Sx.Con.read Sx.Con.make Sx.Con.ext Sx.Con.rel Sx.Con.extS Sx.Con.draw Sx.Con.step Sx.C.one Sx.Draws.steps

theorem devSize_bd (k : Int) : 0 ≤ devSize k ∧ devSize k ≤ 64 := by
  unfold devSize; (repeat' split) <;> omega
theorem wrap_size (k : Int) : IntKind.i64.wrap (devSize k - 1) = devSize k - 1 := by
  have := devSize_bd k
  exact wrap_i64 (by omega) (by omega)

theorem devOk_iff (k n p : Int) : devOk k n p = true ↔ ((1 ≤ k ∧ k ≤ 10 ∧ 0 ≤ n ∧ n < devSize k ∧ p = 0) ∨ (k = 11 ∧ -32768 ≤ n ∧ n ≤ 32767 ∧ p = 0) ∨
    (k = 12 ∧ -999999999 ≤ n ∧ n ≤ 999999999 ∧ 1 ≤ p ∧ p ≤ 6 ∧ (p = 1 ∨ n.tmod 10 ≠ 0)) ∨ (k = 13 ∧ 0 ≤ n ∧ n ≤ 3 ∧ p = 0)) := by unfold devOk; exact decide_eq_true_iff

theorem devOkC_c (k n p : Int) (w : World) : Calls Tryz.prog 149 #[.agg #[.int .i64 k, .int .i64 n, .int .i64 p]] w fun e w' => e = .returned (.bool (devOk k n p)) ∧ RowKit.Below w.heap.size w w' := by
  refine (plain_of_vcs ⟨[isDevC, withinC, devSizeC], []⟩ hmx Tryz.func149 rfl (by kernel_rfl) (args := [.agg #[.int .i64 k, .int .i64 n, .int .i64 p]]) (by simp [Tryz.ntmps149]) w (· = .bool (devOk k n p)) 400 ?_).mono fun e w' ⟨v, h1, h2, h3⟩ => ⟨h2 ▸ h1, h3⟩
  have e := wrap_size k
  have hb := devSize_bd k
  have key := devOk_iff k n p
  simp (maxSteps := 4000000) -dsimp [-List.all_eq_true, -Array.all_eq_true, -Bool.exists_bool, -Bool.forall_bool, and_assoc, List.zipIdx, Tryz.f149, isDevC, withinC, devSizeC, e]
  generalize devOk k n p = d at *
  generalize n.tmod 10 = t at *
  generalize devSize k = z at *
  cases d <;> simp at key ⊢ <;> omega
def devOkC : Con Tryz.prog := Con.pure 149 Tryz.call149 (fun (i : ((Int) × (Int) × (Int))) => match i with | (k, n, p) => [.agg #[.int .i64 k, .int .i64 n, .int .i64 p]]) (fun (i : ((Int) × (Int) × (Int))) => match i with | (k, n, p) => True) (fun (i : ((Int) × (Int) × (Int))) => match i with | (k, n, p) => .bool (devOk k n p)) fun i w _ => devOkC_c i.1 i.2.1 i.2.2 w
theorem sDevOkC_c (k n p : Int) (w : World) : Calls Tryz.prog 166 #[.agg #[.int .i64 k, .int .i64 n, .int .i64 p]] w fun e w' => e = .returned (.bool (devOk k n p)) ∧ RowKit.Below w.heap.size w w' := by
  refine (plain_of_vcs ⟨[sDevSizeC], []⟩ hmx Tryz.func166 rfl (by kernel_rfl) (args := [.agg #[.int .i64 k, .int .i64 n, .int .i64 p]]) (by simp [Tryz.ntmps166]) w (· = .bool (devOk k n p)) 400 ?_).mono fun e w' ⟨v, h1, h2, h3⟩ => ⟨h2 ▸ h1, h3⟩
  have hb := devSize_bd k
  have key := devOk_iff k n p
  by_cases h1 : k = 11
  · subst h1
    simp (maxSteps := 4000000) -dsimp [-List.all_eq_true, -Array.all_eq_true, -Bool.exists_bool, -Bool.forall_bool, and_assoc, List.zipIdx, Tryz.f166, sDevSizeC]
    generalize devOk 11 n p = d at *
    cases d <;> simp at key ⊢ <;> omega
  by_cases h2 : k = 12
  · subst h2
    simp (maxSteps := 4000000) -dsimp [-List.all_eq_true, -Array.all_eq_true, -Bool.exists_bool, -Bool.forall_bool, and_assoc, List.zipIdx, Tryz.f166, sDevSizeC]
    generalize devOk 12 n p = d at *
    generalize n.tmod 10 = t at *
    cases d <;> simp at key ⊢ <;> omega
  by_cases h3 : k = 13
  · subst h3
    simp (maxSteps := 4000000) -dsimp [-List.all_eq_true, -Array.all_eq_true, -Bool.exists_bool, -Bool.forall_bool, and_assoc, List.zipIdx, Tryz.f166, sDevSizeC]
    generalize devOk 13 n p = d at *
    cases d <;> simp at key ⊢ <;> omega
  · have h4 : ¬ (1 ≤ k ∧ k ≤ 10) → devSize k = 0 := fun h => devSize_out (by omega)
    simp only [h1, h2, h3, false_and, or_false] at key
    simp (maxSteps := 4000000) -dsimp [-List.all_eq_true, -Array.all_eq_true, -Bool.exists_bool, -Bool.forall_bool, and_assoc, List.zipIdx, Tryz.f166, sDevSizeC, h1, h2, h3]
    generalize devOk k n p = d at *
    generalize devSize k = z at *
    cases d <;> simp at key ⊢ <;> omega
def sDevOkC : Con Tryz.prog := Con.pure 166 Tryz.call166 (fun (i : ((Int) × (Int) × (Int))) => match i with | (k, n, p) => [.agg #[.int .i64 k, .int .i64 n, .int .i64 p]]) (fun (i : ((Int) × (Int) × (Int))) => match i with | (k, n, p) => True) (fun (i : ((Int) × (Int) × (Int))) => match i with | (k, n, p) => .bool (devOk k n p)) fun i w _ => sDevOkC_c i.1 i.2.1 i.2.2 w
end Go.Proofs.YtclbanhoiaieaaaGreatDoor

namespace Go.Proofs.YtclbanhoiaieaaaGreatDoor
open Go Go.Sx
attribute [local simp] Sx.vcsE1 Sx.vcsE2 Sx.vcsE3 Sx.vcsE4 Sx.vcsE5 Sx.vcsE6 Sx.vcsE7 Sx.vcsE8 Sx.vcsE9 Sx.vcsE10 Sx.vcsE11 Sx.vcsE12 Sx.vcsE13 Sx.vcsE14 Sx.vcsE15 Sx.vcsE16 Sx.vcsE17 Sx.vcsE18 Sx.vcsE19 Sx.get Sx.look Sx.put Sx.pureFn Sx.findOrd Sx.unF Sx.dstOk Sx.isFloatT Sx.endVC Sx.resFn Sx.packC Sx.newFn Sx.storeFn Sx.buildFn Sx.known Sx.aggT Sx.cellsC Sx.findCon Sx.allV Sx.partsV Sx.partsC Sx.fillL Sx.exitTo Sx.fAr Sx.eqFn Sx.eqFieldsFn Sx.eqElemsFn Sx.partFn Sx.sliceFn Sx.boundFn Sx.AppV Sx.CopyV Sx.MakeSliceV Sx.NewsV Sx.GrowV Sx.TextV Sx.bytesL Sx.notInt Sx.typeAt Sx.argAt Sx.den Go.undef Go.Value.cells Go.Value.oneCell' Sx.Con.pure Sx.Con.some Sx.Con.read Sx.Con.make Sx.Con.ext Sx.Con.rel Sx.Con.extS Sx.Con.draw Sx.Con.step Sx.C.one Sx.Draws.steps

theorem sMemPutRealC_c (m : M) (k n p : Int) (v : Nat) (w : World) : Calls Tryz.prog 185 #[.agg (cells m), .agg #[.int .i64 k, .int .i64 n, .int .i64 p], .float .f64 v] w fun e w' => e = .returned (.agg (cells (memPutReal m k n v))) ∧ RowKit.Below w.heap.size w w' := by
  refine (plain_of_vcs ⟨[l5AtC], []⟩ hmx Tryz.func185 rfl (by kernel_rfl) (args := [.agg (cells m), .agg #[.int .i64 k, .int .i64 n, .int .i64 p], .float .f64 v]) (by simp [Tryz.ntmps185]) w (· = .agg (cells (memPutReal m k n v))) 400 ?_).mono fun e w' ⟨v, h1, h2, h3⟩ => ⟨h2 ▸ h1, h3⟩
  have hb := (place_bd k n).1
  obtain ⟨l1, l2, l3, l4, l5, l6, l7, l8, l9, l10⟩ := place_lt n
  by_cases hk : k = 10
  · subst hk
    have e := fun x => set_R m x (place 10 n).toNat (by omega)
    simp (maxSteps := 4000000) -dsimp [-List.all_eq_true, -Array.all_eq_true, -Bool.exists_bool, -Bool.forall_bool, and_assoc, List.zipIdx, Tryz.f185, l5AtC, memPutReal, hb, l10, e]
    omega
  · have hm : memPutReal m k n v = m := by unfold memPutReal; rw [if_neg hk]
    simp (maxSteps := 4000000) -dsimp [-List.all_eq_true, -Array.all_eq_true, -Bool.exists_bool, -Bool.forall_bool, and_assoc, List.zipIdx, Tryz.f185, l5AtC, hm, hk]
def sMemPutRealC : Con Tryz.prog := Con.pure 185 Tryz.call185 (fun (i : ((M) × (Int) × (Int) × (Int) × (Nat))) => match i with | (m, k, n, p, v) => [.agg (cells m), .agg #[.int .i64 k, .int .i64 n, .int .i64 p], .float .f64 v]) (fun (i : ((M) × (Int) × (Int) × (Int) × (Nat))) => match i with | (m, k, n, p, v) => True) (fun (i : ((M) × (Int) × (Int) × (Int) × (Nat))) => match i with | (m, k, n, p, v) => .agg (cells (memPutReal m k n v))) fun i w _ => sMemPutRealC_c i.1 i.2.1 i.2.2.1 i.2.2.2.1 i.2.2.2.2 w
end Go.Proofs.YtclbanhoiaieaaaGreatDoor

namespace Go.Proofs.YtclbanhoiaieaaaGreatDoor
open Go Go.Sx
attribute [local simp] Sx.vcsE1 Sx.vcsE2 Sx.vcsE3 Sx.vcsE4 Sx.vcsE5 Sx.vcsE6 Sx.vcsE7 Sx.vcsE8 Sx.vcsE9 Sx.vcsE10 Sx.vcsE11 Sx.vcsE12 Sx.vcsE13 Sx.vcsE14 Sx.vcsE15 Sx.vcsE16 Sx.vcsE17 Sx.vcsE18 Sx.vcsE19 Sx.get Sx.look Sx.put Sx.pureFn Sx.findOrd Sx.unF Sx.dstOk Sx.isFloatT Sx.endVC Sx.resFn Sx.packC Sx.newFn Sx.storeFn Sx.buildFn Sx.known Sx.aggT Sx.cellsC Sx.findCon Sx.allV Sx.partsV Sx.partsC Sx.fillL Sx.exitTo Sx.fAr Sx.eqFn Sx.eqFieldsFn Sx.eqElemsFn Sx.partFn Sx.sliceFn Sx.boundFn Sx.AppV Sx.CopyV Sx.MakeSliceV Sx.NewsV Sx.GrowV Sx.TextV Sx.bytesL Sx.notInt Sx.typeAt Sx.argAt Sx.den Go.undef Go.Value.cells Go.Value.oneCell' Sx.Con.pure Sx.Con.some Sx.Con.read Sx.Con.make Sx.Con.ext Sx.Con.rel Sx.Con.extS Sx.Con.draw Sx.Con.step Sx.C.one Sx.Draws.steps

theorem fmt64 : FloatKind.f64.format = dbl := rfl

theorem sameFloatC_c (a b : Nat) (hpre : sameF a b ∧ a < 18446744073709551616) (w : World) : Calls Tryz.prog 142 #[.float .f64 a, .float .f64 b] w fun e w' => e = .returned (.bool true) ∧ RowKit.Below w.heap.size w w' := by
  refine (plain_of_vcs ⟨[], []⟩ hmx Tryz.func142 rfl (by kernel_rfl) (args := [.float .f64 a, .float .f64 b]) (by simp [Tryz.ntmps142]) w (· = .bool true) 400 ?_).mono fun e w' ⟨v, h1, h2, h3⟩ => ⟨h2 ▸ h1, h3⟩
  obtain ⟨h, hb⟩ := hpre
  rcases h with ⟨rfl, hn⟩ | ⟨ha, hb'⟩
  · have e := ord_self a
    rw [hn] at e
    by_cases hz : dbl.order a 0 = some .eq
    · obtain rfl | rfl := (ord_zero hb).1 hz
      · simp (maxSteps := 4000000) -dsimp [-List.all_eq_true, -Array.all_eq_true, -Bool.exists_bool, -Bool.forall_bool, and_assoc, List.zipIdx, Tryz.f142, fmt64, e, hz, fRes, div_one_pos, ord_inf_pos]
      · simp (maxSteps := 4000000) -dsimp [-List.all_eq_true, -Array.all_eq_true, -Bool.exists_bool, -Bool.forall_bool, and_assoc, List.zipIdx, Tryz.f142, fmt64, e, hz, fRes, div_one_neg, ord_inf_neg]
    · simp (maxSteps := 4000000) -dsimp [-List.all_eq_true, -Array.all_eq_true, -Bool.exists_bool, -Bool.forall_bool, and_assoc, List.zipIdx, Tryz.f142, fmt64, e, hz]
  · have e1 := ord_self a
    have e2 := ord_self b
    rw [ha] at e1
    rw [hb'] at e2
    simp (maxSteps := 4000000) -dsimp [-List.all_eq_true, -Array.all_eq_true, -Bool.exists_bool, -Bool.forall_bool, and_assoc, List.zipIdx, Tryz.f142, fmt64, e1, e2]
def sameFloatC : Con Tryz.prog := Con.pure 142 Tryz.call142 (fun (i : ((Nat) × (Nat))) => match i with | (a, b) => [.float .f64 a, .float .f64 b]) (fun (i : ((Nat) × (Nat))) => match i with | (a, b) => sameF a b ∧ a < 18446744073709551616) (fun (i : ((Nat) × (Nat))) => match i with | (a, b) => .bool true) fun i w hp => sameFloatC_c i.1 i.2 hp w
theorem eqTimerC_c (b : Bool) (n : Int) (w : World) : Calls Tryz.prog 140 #[.agg #[.bool b, .int .u16 n], .agg #[.bool b, .int .u16 n]] w fun e w' => e = .returned (.bool true) ∧ RowKit.Below w.heap.size w w' := by
  refine (plain_of_vcs ⟨[], []⟩ hmx Tryz.func140 rfl (by kernel_rfl) (args := [.agg #[.bool b, .int .u16 n], .agg #[.bool b, .int .u16 n]]) (by simp [Tryz.ntmps140]) w (· = .bool true) 400 ?_).mono fun e w' ⟨v, h1, h2, h3⟩ => ⟨h2 ▸ h1, h3⟩
  simp (maxSteps := 4000000) -dsimp [-List.all_eq_true, -Array.all_eq_true, -Bool.exists_bool, -Bool.forall_bool, and_assoc, List.zipIdx, Tryz.f140]
def eqTimerC : Con Tryz.prog := Con.pure 140 Tryz.call140 (fun (i : ((Bool) × (Int))) => match i with | (b, n) => [.agg #[.bool b, .int .u16 n], .agg #[.bool b, .int .u16 n]]) (fun (i : ((Bool) × (Int))) => match i with | (b, n) => True) (fun (i : ((Bool) × (Int))) => match i with | (b, n) => .bool true) fun i w _ => eqTimerC_c i.1 i.2 w
theorem eqCounterC_c (b c : Bool) (n : Int) (w : World) : Calls Tryz.prog 141 #[.agg #[.bool b, .bool c, .int .u16 n], .agg #[.bool b, .bool c, .int .u16 n]] w fun e w' => e = .returned (.bool true) ∧ RowKit.Below w.heap.size w w' := by
  refine (plain_of_vcs ⟨[], []⟩ hmx Tryz.func141 rfl (by kernel_rfl) (args := [.agg #[.bool b, .bool c, .int .u16 n], .agg #[.bool b, .bool c, .int .u16 n]]) (by simp [Tryz.ntmps141]) w (· = .bool true) 400 ?_).mono fun e w' ⟨v, h1, h2, h3⟩ => ⟨h2 ▸ h1, h3⟩
  simp (maxSteps := 4000000) -dsimp [-List.all_eq_true, -Array.all_eq_true, -Bool.exists_bool, -Bool.forall_bool, and_assoc, List.zipIdx, Tryz.f141]
def eqCounterC : Con Tryz.prog := Con.pure 141 Tryz.call141 (fun (i : ((Bool) × (Bool) × (Int))) => match i with | (b, c, n) => [.agg #[.bool b, .bool c, .int .u16 n], .agg #[.bool b, .bool c, .int .u16 n]]) (fun (i : ((Bool) × (Bool) × (Int))) => match i with | (b, c, n) => True) (fun (i : ((Bool) × (Bool) × (Int))) => match i with | (b, c, n) => .bool true) fun i w _ => eqCounterC_c i.1 i.2.1 i.2.2 w
theorem eqTimersC_c (f : Arr 16 (Bool × Int)) (w : World) : Calls Tryz.prog 54 #[.agg (tL f).toArray, .agg (tL f).toArray] w fun e w' => e = .returned (.bool true) ∧ RowKit.Below w.heap.size w w' := by
  refine (plain_of_vcs ⟨[eqTimerC], []⟩ hmx Tryz.func54 rfl (by kernel_rfl) (args := [.agg (tL f).toArray, .agg (tL f).toArray]) (by simp [Tryz.ntmps54]) w (· = .bool true) 1000 ?_).mono fun e w' ⟨v, h1, h2, h3⟩ => ⟨h2 ▸ h1, h3⟩
  rw [tL_lit]
  simp (maxSteps := 4000000) -dsimp [-List.all_eq_true, -Array.all_eq_true, -Bool.exists_bool, -Bool.forall_bool, and_assoc, List.zipIdx, Tryz.f54, eqTimerC]
  intro _ _
  iterate 17
    refine loop_unroll (σ := ⟨[eqTimerC], []⟩) (n := 1000) hmx (by kernel_rfl) ?_
    simp (maxSteps := 4000000) -dsimp [-List.all_eq_true, -Array.all_eq_true, -Bool.exists_bool, -Bool.forall_bool, and_assoc, List.zipIdx, Tryz.f54, eqTimerC, IntKind.wrap, IntKind.signed, IntKind.bits]
def eqTimersC : Con Tryz.prog := Con.pure 54 Tryz.call54 (fun (f : ((Arr 16 (Bool × Int)))) => [.agg (tL f).toArray, .agg (tL f).toArray]) (fun (f : ((Arr 16 (Bool × Int)))) => True) (fun (f : ((Arr 16 (Bool × Int)))) => .bool true) fun f w _ => eqTimersC_c f w
theorem eqCountersC_c (f : Arr 16 (Bool × Bool × Int)) (w : World) : Calls Tryz.prog 55 #[.agg (cL f).toArray, .agg (cL f).toArray] w fun e w' => e = .returned (.bool true) ∧ RowKit.Below w.heap.size w w' := by
  refine (plain_of_vcs ⟨[eqCounterC], []⟩ hmx Tryz.func55 rfl (by kernel_rfl) (args := [.agg (cL f).toArray, .agg (cL f).toArray]) (by simp [Tryz.ntmps55]) w (· = .bool true) 1000 ?_).mono fun e w' ⟨v, h1, h2, h3⟩ => ⟨h2 ▸ h1, h3⟩
  rw [cL_lit]
  simp (maxSteps := 4000000) -dsimp [-List.all_eq_true, -Array.all_eq_true, -Bool.exists_bool, -Bool.forall_bool, and_assoc, List.zipIdx, Tryz.f55, eqCounterC]
  intro _ _
  iterate 17
    refine loop_unroll (σ := ⟨[eqCounterC], []⟩) (n := 1000) hmx (by kernel_rfl) ?_
    simp (maxSteps := 4000000) -dsimp [-List.all_eq_true, -Array.all_eq_true, -Bool.exists_bool, -Bool.forall_bool, and_assoc, List.zipIdx, Tryz.f55, eqCounterC, IntKind.wrap, IntKind.signed, IntKind.bits]
def eqCountersC : Con Tryz.prog := Con.pure 55 Tryz.call55 (fun (f : ((Arr 16 (Bool × Bool × Int)))) => [.agg (cL f).toArray, .agg (cL f).toArray]) (fun (f : ((Arr 16 (Bool × Bool × Int)))) => True) (fun (f : ((Arr 16 (Bool × Bool × Int)))) => .bool true) fun f w _ => eqCountersC_c f w
theorem eqIntsC_c (f : Arr 32 Int) (w : World) : Calls Tryz.prog 56 #[.agg (dL f).toArray, .agg (dL f).toArray] w fun e w' => e = .returned (.bool true) ∧ RowKit.Below w.heap.size w w' := by
  refine (plain_of_vcs ⟨[], []⟩ hmx Tryz.func56 rfl (by kernel_rfl) (args := [.agg (dL f).toArray, .agg (dL f).toArray]) (by simp [Tryz.ntmps56]) w (· = .bool true) 1000 ?_).mono fun e w' ⟨v, h1, h2, h3⟩ => ⟨h2 ▸ h1, h3⟩
  rw [dL_lit]
  simp (maxSteps := 4000000) -dsimp [-List.all_eq_true, -Array.all_eq_true, -Bool.exists_bool, -Bool.forall_bool, and_assoc, List.zipIdx, Tryz.f56]
  intro _ _
  iterate 33
    refine loop_unroll (σ := ⟨[], []⟩) (n := 1000) hmx (by kernel_rfl) ?_
    simp (maxSteps := 4000000) -dsimp [-List.all_eq_true, -Array.all_eq_true, -Bool.exists_bool, -Bool.forall_bool, and_assoc, List.zipIdx, Tryz.f56, IntKind.wrap, IntKind.signed, IntKind.bits]
def eqIntsC : Con Tryz.prog := Con.pure 56 Tryz.call56 (fun (f : ((Arr 32 Int))) => [.agg (dL f).toArray, .agg (dL f).toArray]) (fun (f : ((Arr 32 Int))) => True) (fun (f : ((Arr 32 Int))) => .bool true) fun f w _ => eqIntsC_c f w
theorem eqRealsC_c (f : Arr 16 Nat) (g : Arr 16 Nat) (hpre : (∀ k, k < 16 → sameF (f k) (g k)) ∧ (∀ k, k < 16 → f k < 18446744073709551616)) (w : World) : Calls Tryz.prog 57 #[.agg (rL f).toArray, .agg (rL g).toArray] w fun e w' => e = .returned (.bool true) ∧ RowKit.Below w.heap.size w w' := by
  refine (plain_of_vcs ⟨[sameFloatC], []⟩ hmx Tryz.func57 rfl (by kernel_rfl) (args := [.agg (rL f).toArray, .agg (rL g).toArray]) (by simp [Tryz.ntmps57]) w (· = .bool true) 1000 ?_).mono fun e w' ⟨v, h1, h2, h3⟩ => ⟨h2 ▸ h1, h3⟩
  obtain ⟨h1, h2⟩ := hpre
  rw [rL_lit, rL_lit]
  simp (maxSteps := 4000000) -dsimp [-List.all_eq_true, -Array.all_eq_true, -Bool.exists_bool, -Bool.forall_bool, and_assoc, List.zipIdx, Tryz.f57, sameFloatC]
  intro _ _
  iterate 17
    refine loop_unroll (σ := ⟨[sameFloatC], []⟩) (n := 1000) hmx (by kernel_rfl) ?_
    simp (maxSteps := 4000000) -dsimp [-List.all_eq_true, -Array.all_eq_true, -Bool.exists_bool, -Bool.forall_bool, and_assoc, List.zipIdx, Tryz.f57, sameFloatC, IntKind.wrap, IntKind.signed, IntKind.bits, h1, h2]
def eqRealsC : Con Tryz.prog := Con.pure 57 Tryz.call57 (fun (i : ((Arr 16 Nat) × (Arr 16 Nat))) => match i with | (f, g) => [.agg (rL f).toArray, .agg (rL g).toArray]) (fun (i : ((Arr 16 Nat) × (Arr 16 Nat))) => match i with | (f, g) => (∀ k, k < 16 → sameF (f k) (g k)) ∧ (∀ k, k < 16 → f k < 18446744073709551616)) (fun (i : ((Arr 16 Nat) × (Arr 16 Nat))) => match i with | (f, g) => .bool true) fun i w hp => eqRealsC_c i.1 i.2 hp w
theorem eqMemC_c (a b : M) (hpre : MSame a b ∧ MOk a) (w : World) : Calls Tryz.prog 13 #[.agg (cells a), .agg (cells b)] w fun e w' => e = .returned (.bool true) ∧ RowKit.Below w.heap.size w w' := by
  refine (plain_of_vcs ⟨[eqTimersC, eqCountersC, eqIntsC, eqRealsC], []⟩ hmx Tryz.func13 rfl (by kernel_rfl) (args := [.agg (cells a), .agg (cells b)]) (by simp [Tryz.ntmps13]) w (· = .bool true) 1000 ?_).mono fun e w' ⟨v, h1, h2, h3⟩ => ⟨h2 ▸ h1, h3⟩
  obtain ⟨h, ho⟩ := hpre
  have hR := ho.R
  simp (maxSteps := 4000000) -dsimp [-List.all_eq_true, -Array.all_eq_true, -Bool.exists_bool, -Bool.forall_bool, and_assoc, List.zipIdx, Tryz.f13, eqTimersC, eqCountersC, eqIntsC, eqRealsC, h.X, h.Y, h.Mw, h.S, h.E, h.T, h.C, h.D, h.Time, h.Ran, h.Fault]
  exact ⟨h.R, hR⟩
def eqMemC : Con Tryz.prog := Con.pure 13 Tryz.call13 (fun (i : ((M) × (M))) => match i with | (a, b) => [.agg (cells a), .agg (cells b)]) (fun (i : ((M) × (M))) => match i with | (a, b) => MSame a b ∧ MOk a) (fun (i : ((M) × (M))) => match i with | (a, b) => .bool true) fun i w hp => eqMemC_c i.1 i.2 hp w
end Go.Proofs.YtclbanhoiaieaaaGreatDoor
