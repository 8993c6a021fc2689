/-
  Contracts: bits are put into the memory; real numbers of operands; a scan begins.
-/
import Derived.Test.YtmlmmaojomghdaaDoorPth
import Derived.Test.YtmlmmaojomghdaaDoorFactsth
set_option linter.unusedVariables false
set_option linter.unusedSimpArgs false
set_option maxRecDepth 100000
set_option maxHeartbeats 1000000
set_option maxHeartbeats 4000000
namespace Go.Proofs.YtmlmmaojomghdaaDoor
open Go Go.Sx
open List renaming all_eq_true → Y1, zipIdx → Y5
open Bool renaming exists_bool → Y3, forall_bool → Y4
attribute [local simp] Sx.vcsE1 Sx.vcsE2 Sx.vcsE3 Sx.vcsE4 Sx.vcsE5 Sx.vcsE6 Sx.vcsE7 Sx.vcsE8 Sx.vcsE9 Sx.vcsE10 Sx.vcsE11 Sx.vcsE12 Sx.vcsE13 Sx.vcsE14 Sx.vcsE15 Sx.vcsE16 Sx.vcsE17 Sx.vcsE18 Sx.vcsE19 Sx.get Sx.look Sx.put Sx.pureFn Sx.findOrd Sx.unF Sx.dstOk Sx.isFloatT Sx.endVC Sx.resFn Sx.packC Sx.newFn Sx.storeFn Sx.buildFn Sx.known Sx.aggT Sx.cellsC Sx.findCon Sx.allV Sx.partsV Sx.partsC Sx.fillL Sx.exitTo Sx.fAr Sx.eqFn Sx.eqFieldsFn Sx.eqElemsFn Sx.partFn Sx.sliceFn Sx.boundFn Sx.AppV Sx.CopyV Sx.MakeSliceV Sx.NewsV Sx.GrowV Sx.TextV Sx.bytesL Sx.notInt Sx.typeAt Sx.argAt Sx.den Go.undef Go.Value.cells Go.Value.oneCell' Sx.Con.pure Sx.Con.some Sx.Con.read Sx.Con.make Sx.Con.ext Sx.Con.rel Sx.Con.extS Sx.Con.draw Sx.Con.step Sx.C.one Sx.Draws.steps

theorem withinC_c (a b c : Int) (w : World) : Calls Tryd.prog 60 #[.int .i64 a, .int .i64 b, .int .i64 c] w fun e w' => e = .returned (.bool (decide (b ≤ a ∧ a ≤ c))) ∧ RowKit.Below w.heap.size w w' := by
  refine (plain_of_vcs ⟨[], []⟩ hmx Tryd.func60 rfl (by kernel_rfl) (args := [.int .i64 a, .int .i64 b, .int .i64 c]) (by simp [Tryd.ntmps60]) w (· = .bool (decide (b ≤ a ∧ a ≤ c))) 400 ?_).mono fun e w' ⟨v, h1, h2, h3⟩ => ⟨h2 ▸ h1, h3⟩
  simp (maxSteps := 4000000) -dsimp [-Y1, -Array.all_eq_true, -Y3, -Y4, and_assoc, Y5, Tryd.f60]
  omega
def withinC : Con Tryd.prog := Con.pure 60 Tryd.call60 (fun (i : ((Int) × (Int) × (Int))) => match i with | (a, b, c) => [.int .i64 a, .int .i64 b, .int .i64 c]) (fun (i : ((Int) × (Int) × (Int))) => match i with | (a, b, c) => True) (fun (i : ((Int) × (Int) × (Int))) => match i with | (a, b, c) => .bool (decide (b ≤ a ∧ a ≤ c))) fun i w _ => withinC_c i.1 i.2.1 i.2.2 w
theorem isDevC_c (k : Int) (w : World) : Calls Tryd.prog 67 #[.int .i64 k] w fun e w' => e = .returned (.bool (decide (1 ≤ k ∧ k ≤ 10))) ∧ RowKit.Below w.heap.size w w' := by
  refine (plain_of_vcs ⟨[withinC], []⟩ hmx Tryd.func67 rfl (by kernel_rfl) (args := [.int .i64 k]) (by simp [Tryd.ntmps67]) w (· = .bool (decide (1 ≤ k ∧ k ≤ 10))) 400 ?_).mono fun e w' ⟨v, h1, h2, h3⟩ => ⟨h2 ▸ h1, h3⟩
  simp (maxSteps := 4000000) -dsimp [-Y1, -Array.all_eq_true, -Y3, -Y4, and_assoc, Y5, Tryd.f67, withinC]
def isDevC : Con Tryd.prog := Con.pure 67 Tryd.call67 (fun (k : ((Int))) => [.int .i64 k]) (fun (k : ((Int))) => True) (fun (k : ((Int))) => .bool (decide (1 ≤ k ∧ k ≤ 10))) fun k w _ => isDevC_c k w
theorem devSizeC_c (k : Int) (w : World) : Calls Tryd.prog 36 #[.int .i64 k] w fun e w' => e = .returned (.int .i64 (devSize k)) ∧ RowKit.Below w.heap.size w w' := by
  refine (plain_of_vcs ⟨[isDevC], []⟩ hmx Tryd.func36 rfl (by kernel_rfl) (args := [.int .i64 k]) (by simp [Tryd.ntmps36]) w (· = .int .i64 (devSize k)) 400 ?_).mono fun e w' ⟨v, h1, h2, h3⟩ => ⟨h2 ▸ h1, h3⟩
  simp (maxSteps := 4000000) -dsimp [-Y1, -Array.all_eq_true, -Y3, -Y4, and_assoc, Y5, Tryd.f36, isDevC]
  refine ⟨fun h => (devSize_out h).symm, fun h1 h2 => ?_⟩
  obtain ⟨h3, h4, h5⟩ := devSize_tab h1 h2
  rw [h5]
  exact ⟨⟨h3, h4⟩, rfl⟩
def devSizeC : Con Tryd.prog := Con.pure 36 Tryd.call36 (fun (k : ((Int))) => [.int .i64 k]) (fun (k : ((Int))) => True) (fun (k : ((Int))) => .int .i64 (devSize k)) fun k w _ => devSizeC_c k w
theorem givenC_c (m : M) (k : Int) (hpre : MOk m) (w : World) : Calls Tryd.prog 69 #[.agg (cells m), .int .i64 k] w fun e w' => e = .returned (.bool (given m k)) ∧ RowKit.Below w.heap.size w w' := by
  refine (plain_of_vcs ⟨[], []⟩ hmx Tryd.func69 rfl (by kernel_rfl) (args := [.agg (cells m), .int .i64 k]) (by simp [Tryd.ntmps69]) w (· = .bool (given m k)) 400 ?_).mono fun e w' ⟨v, h1, h2, h3⟩ => ⟨h2 ▸ h1, h3⟩
  simp (maxSteps := 4000000) -dsimp [-Y1, -Array.all_eq_true, -Y3, -Y4, and_assoc, Y5, Tryd.f69]
  have := Int.tmod_eq_emod_of_nonneg hpre.Time.1 (b := 1000)
  simp +contextual [given, this]
def givenC : Con Tryd.prog := Con.pure 69 Tryd.call69 (fun (i : ((M) × (Int))) => match i with | (m, k) => [.agg (cells m), .int .i64 k]) (fun (i : ((M) × (Int))) => match i with | (m, k) => MOk m) (fun (i : ((M) × (Int))) => match i with | (m, k) => .bool (given m k)) fun i w hp => givenC_c i.1 i.2 hp w
theorem placeC_c (k n p : Int) (hpre : 1 ≤ k ∧ k ≤ 10) (w : World) : Calls Tryd.prog 68 #[.agg #[.int .i64 k, .int .i64 n, .int .i64 p]] w fun e w' => e = .returned (.int .i64 (place k n)) ∧ RowKit.Below w.heap.size w w' := by
  refine (plain_of_vcs ⟨[devSizeC], []⟩ hmx Tryd.func68 rfl (by kernel_rfl) (args := [.agg #[.int .i64 k, .int .i64 n, .int .i64 p]]) (by simp [Tryd.ntmps68]) w (· = .int .i64 (place k n)) 400 ?_).mono fun e w' ⟨v, h1, h2, h3⟩ => ⟨h2 ▸ h1, h3⟩
  obtain ⟨h1, h2⟩ := hpre
  have e := place_eq (n := n) h1 h2
  have hp := devSize_pos h1 h2
  simp (maxSteps := 4000000) -dsimp [-Y1, -Array.all_eq_true, -Y3, -Y4, and_assoc, Y5, Tryd.f68, devSizeC]
  by_cases h6 : k = 6
  · subst h6; simpa [ring] using e
  · simp only [h6, false_implies, true_and, not_false_iff, true_implies]
    simp only [ring, h6, if_false] at e
    exact ⟨by omega, e⟩
def placeC : Con Tryd.prog := Con.pure 68 Tryd.call68 (fun (i : ((Int) × (Int) × (Int))) => match i with | (k, n, p) => [.agg #[.int .i64 k, .int .i64 n, .int .i64 p]]) (fun (i : ((Int) × (Int) × (Int))) => match i with | (k, n, p) => 1 ≤ k ∧ k ≤ 10) (fun (i : ((Int) × (Int) × (Int))) => match i with | (k, n, p) => .int .i64 (place k n)) fun i w hp => placeC_c i.1 i.2.1 i.2.2 hp w
theorem memBitC_c (m : M) (k n p : Int) (hpre : MOk m) (w : World) : Calls Tryd.prog 37 #[.agg (cells m), .agg #[.int .i64 k, .int .i64 n, .int .i64 p]] w fun e w' => e = .returned (.bool (memBit m k n)) ∧ RowKit.Below w.heap.size w w' := by
  refine (plain_of_vcs ⟨[isDevC, placeC, givenC], []⟩ hmx Tryd.func37 rfl (by kernel_rfl) (args := [.agg (cells m), .agg #[.int .i64 k, .int .i64 n, .int .i64 p]]) (by simp [Tryd.ntmps37]) w (· = .bool (memBit m k n)) 400 ?_).mono fun e w' ⟨v, h1, h2, h3⟩ => ⟨h2 ▸ h1, h3⟩
  have hb := (place_bd k n).1
  obtain ⟨l1, l2, l3, l4, l5, l6, l7, l8, l9, l10⟩ := place_lt n
  by_cases hk : 1 ≤ k ∧ k ≤ 10
  · obtain rfl | rfl | rfl | rfl | rfl | rfl | rfl | rfl | rfl | rfl : k = 1 ∨ k = 2 ∨ k = 3 ∨ k = 4 ∨ k = 5 ∨ k = 6 ∨ k = 7 ∨ k = 8 ∨ k = 9 ∨ k = 10 := by omega
    all_goals simp (maxSteps := 4000000) -dsimp [-Y1, -Array.all_eq_true, -Y3, -Y4, and_assoc, Y5, Tryd.f37, isDevC, placeC, givenC, memBit, hpre, hb, l7, l8]
    · exact ⟨by rw [wrap_u64 hb (by omega)]; exact hb, bit_u32 hpre.X hb l1⟩
    · exact ⟨by rw [wrap_u64 hb (by omega)]; exact hb, bit_u32 hpre.Y hb l2⟩
    · exact ⟨by rw [wrap_u64 hb (by omega)]; exact hb, bit_u64 hpre.Mw hb l3⟩
    · exact ⟨by rw [wrap_u64 hb (by omega)]; exact hb, bit_u16 hpre.S hb l4⟩
    · exact ⟨by rw [wrap_u64 hb (by omega)]; exact hb, bit_u32 hpre.E hb l5⟩
    · rw [get_T0 m _ (by omega)]; simp
    · rw [get_C0 m _ (by omega)]; simp
  · have hm : memBit m k n = false := by unfold memBit; (repeat' rw [if_neg (by omega)])
    simp (maxSteps := 4000000) -dsimp [-Y1, -Array.all_eq_true, -Y3, -Y4, and_assoc, Y5, Tryd.f37, isDevC, placeC, givenC, hm]
    omega
def memBitC : Con Tryd.prog := Con.pure 37 Tryd.call37 (fun (i : ((M) × (Int) × (Int) × (Int))) => match i with | (m, k, n, p) => [.agg (cells m), .agg #[.int .i64 k, .int .i64 n, .int .i64 p]]) (fun (i : ((M) × (Int) × (Int) × (Int))) => match i with | (m, k, n, p) => MOk m) (fun (i : ((M) × (Int) × (Int) × (Int))) => match i with | (m, k, n, p) => .bool (memBit m k n)) fun i w hp => memBitC_c i.1 i.2.1 i.2.2.1 i.2.2.2 hp w
theorem sDevSizeC_c (k : Int) (w : World) : Calls Tryd.prog 61 #[.int .i64 k] w fun e w' => e = .returned (.int .i64 (devSize k)) ∧ RowKit.Below w.heap.size w w' := by
  refine (plain_of_vcs ⟨[], []⟩ hmx Tryd.func61 rfl (by kernel_rfl) (args := [.int .i64 k]) (by simp [Tryd.ntmps61]) w (· = .int .i64 (devSize k)) 400 ?_).mono fun e w' ⟨v, h1, h2, h3⟩ => ⟨h2 ▸ h1, h3⟩
  simp (maxSteps := 4000000) -dsimp [-Y1, -Array.all_eq_true, -Y3, -Y4, and_assoc, Y5, Tryd.f61]
  simp +contextual [devSize]
def sDevSizeC : Con Tryd.prog := Con.pure 61 Tryd.call61 (fun (k : ((Int))) => [.int .i64 k]) (fun (k : ((Int))) => True) (fun (k : ((Int))) => .int .i64 (devSize k)) fun k w _ => sDevSizeC_c k w
theorem l5AtC_c (k n p : Int) (w : World) : Calls Tryd.prog 84 #[.agg #[.int .i64 k, .int .i64 n, .int .i64 p]] w fun e w' => e = .returned (.int .i64 (place k n)) ∧ RowKit.Below w.heap.size w w' := by
  refine (plain_of_vcs ⟨[sDevSizeC], []⟩ hmx Tryd.func84 rfl (by kernel_rfl) (args := [.agg #[.int .i64 k, .int .i64 n, .int .i64 p]]) (by simp [Tryd.ntmps84]) w (· = .int .i64 (place k n)) 400 ?_).mono fun e w' ⟨v, h1, h2, h3⟩ => ⟨h2 ▸ h1, h3⟩
  simp (maxSteps := 4000000) -dsimp [-Y1, -Array.all_eq_true, -Y3, -Y4, and_assoc, Y5, Tryd.f84, sDevSizeC]
  have hb := ring_bd k
  have key : ring k ≠ 0 → (n.tmod (ring k) < 0 → IntKind.i64.wrap (n.tmod (ring k) + ring k) = place k n) ∧ (0 ≤ n.tmod (ring k) → n.tmod (ring k) = place k n) := fun h => place_two h
  by_cases h6 : k = 6
  · subst h6; exact ⟨fun _ => key (by decide), fun h => (h rfl).elim⟩
  · have e : ring k = devSize k := by simp [ring, h6]
    rw [e] at key
    refine ⟨fun h => (h6 h).elim, fun _ => ⟨fun h => ?_, fun h => ⟨h, key h⟩⟩⟩
    unfold place; rw [e, if_pos h]
def l5AtC : Con Tryd.prog := Con.pure 84 Tryd.call84 (fun (i : ((Int) × (Int) × (Int))) => match i with | (k, n, p) => [.agg #[.int .i64 k, .int .i64 n, .int .i64 p]]) (fun (i : ((Int) × (Int) × (Int))) => match i with | (k, n, p) => True) (fun (i : ((Int) × (Int) × (Int))) => match i with | (k, n, p) => .int .i64 (place k n)) fun i w _ => l5AtC_c i.1 i.2.1 i.2.2 w
theorem l5BitC_c (x k : Int) (hpre : 0 ≤ x ∧ x < 18446744073709551616 ∧ 0 ≤ k ∧ k < 64) (w : World) : Calls Tryd.prog 99 #[.int .u64 x, .int .i64 k] w fun e w' => e = .returned (.bool (bitOf x k.toNat)) ∧ RowKit.Below w.heap.size w w' := by
  refine (plain_of_vcs ⟨[], []⟩ hmx Tryd.func99 rfl (by kernel_rfl) (args := [.int .u64 x, .int .i64 k]) (by simp [Tryd.ntmps99]) w (· = .bool (bitOf x k.toNat)) 400 ?_).mono fun e w' ⟨v, h1, h2, h3⟩ => ⟨h2 ▸ h1, h3⟩
  obtain ⟨hx, hx2, hk, hk2⟩ := hpre
  simp (maxSteps := 4000000) -dsimp [-Y1, -Array.all_eq_true, -Y3, -Y4, and_assoc, Y5, Tryd.f99]
  refine loop_inv (σ := ⟨[], []⟩) hmx (by kernel_rfl) (fun m cx tm mem => cx = ⟨w, [], w, []⟩ ∧ mem = [] ∧ ∃ i : Nat, i ≤ k.toNat ∧ m = k.toNat - i ∧ Sx.look tm 5 = .v (.int .i64 i) ∧ Sx.look tm 0 = .v (.int .u64 (x / 2 ^ i)) ∧ Sx.look tm 1 = .v (.int .i64 k))
    k.toNat ⟨rfl, rfl, 0, by simp, rfl, by simp [Sx.look], by simp [Sx.look], by simp [Sx.look]⟩ ?_
  rintro m cx tm mem ⟨rfl, rfl, i, hi, rfl, h5, h0, h1⟩
  refine ⟨200, ?_⟩
  simp (maxSteps := 4000000) -dsimp [-Y1, -Array.all_eq_true, -Y3, -Y4, and_assoc, Y5, Tryd.f99, h5, h0, h1]
  have hq : 0 ≤ x / 2 ^ i := Int.ediv_nonneg hx (Int.pow_nonneg (by decide))
  have hq2 : x / 2 ^ i ≤ x := Int.ediv_le_self _ hx
  refine ⟨fun hlt => ⟨k.toNat - (i + 1), by omega, i + 1, by omega, rfl, ?_, ?_⟩, fun hge => ?_⟩
  · rw [wrap_i64 (by omega) (by omega)]; rfl
  · rw [Int.tdiv_eq_ediv_of_nonneg hq, wrap_u64 (by omega) (by omega), Int.pow_succ, Int.ediv_ediv_of_nonneg (Int.pow_nonneg (by decide))]
  · have : i = k.toNat := by omega
    subst this
    rw [Int.tmod_eq_emod_of_nonneg hq]
    unfold bitOf
    cases h : decide (x / 2 ^ k.toNat % 2 = 1) <;> simp_all
def l5BitC : Con Tryd.prog := Con.pure 99 Tryd.call99 (fun (i : ((Int) × (Int))) => match i with | (x, k) => [.int .u64 x, .int .i64 k]) (fun (i : ((Int) × (Int))) => match i with | (x, k) => 0 ≤ x ∧ x < 18446744073709551616 ∧ 0 ≤ k ∧ k < 64) (fun (i : ((Int) × (Int))) => match i with | (x, k) => .bool (bitOf x k.toNat)) fun i w hp => l5BitC_c i.1 i.2 hp w

theorem l5TurnedC_c (x k : Int) (b : Bool) (hpre : 0 ≤ x ∧ x < 18446744073709551616 ∧ 0 ≤ k ∧ k < 64) (w : World) : Calls Tryd.prog 85 #[.int .u64 x, .int .i64 k, .bool b] w fun e w' => e = .returned (.int .u64 (putBit x k.toNat b)) ∧ RowKit.Below w.heap.size w w' := by
  refine (plain_of_vcs ⟨[l5BitC], []⟩ hmx Tryd.func85 rfl (by kernel_rfl) (args := [.int .u64 x, .int .i64 k, .bool b]) (by simp [Tryd.ntmps85]) w (· = .int .u64 (putBit x k.toNat b)) 400 ?_).mono fun e w' ⟨v, h1, h2, h3⟩ => ⟨h2 ▸ h1, h3⟩
  obtain ⟨hx, hx2, hk, hk2⟩ := hpre
  simp (maxSteps := 4000000) -dsimp [-Y1, -Array.all_eq_true, -Y3, -Y4, and_assoc, Y5, Tryd.f85, l5BitC, hx, hx2, hk, hk2]
  refine ⟨fun h => by simp [putBit, h], fun h => ?_⟩
  refine loop_inv (σ := ⟨[l5BitC], []⟩) hmx (by kernel_rfl) (fun m cx tm mem => cx = ⟨w, [], w, []⟩ ∧ mem = [] ∧ ∃ i : Nat, i ≤ k.toNat ∧ m = k.toNat - i ∧ Sx.look tm 8 = .v (.int .i64 i) ∧ Sx.look tm 7 = .v (.int .u64 (2 ^ i)) ∧ Sx.look tm 1 = .v (.int .i64 k) ∧ Sx.look tm 0 = .v (.int .u64 x) ∧ Sx.look tm 2 = .v (.bool b))
    k.toNat ⟨rfl, rfl, 0, by simp, rfl, by simp [Sx.look], by simp [Sx.look], by simp [Sx.look], by simp [Sx.look], by simp [Sx.look]⟩ ?_
  rintro m cx tm mem ⟨rfl, rfl, i, hi, rfl, h8, h7, h1, h0, h2⟩
  refine ⟨200, ?_⟩
  have hpow : ∀ i : Nat, i ≤ k.toNat → (0 : Int) ≤ 2 ^ i ∧ (2 : Int) ^ i < 18446744073709551616 := fun i hi => by
    have e1 : (2 : Nat) ^ i ≤ 2 ^ 63 := Nat.pow_le_pow_right (by omega) (by omega)
    have e2 : ((2 : Int) ^ i) = ((2 ^ i : Nat) : Int) := by push_cast; rfl
    rw [e2]
    have h3 : (2 : Nat) ^ i < 18446744073709551616 := Nat.lt_of_le_of_lt e1 (by decide)
    refine ⟨Int.natCast_nonneg _, ?_⟩
    generalize 2 ^ i = A at *
    omega
  have hpb := putBit_bd (x := x) (b := 64) (j := k.toNat) (c := b) hx (by omega) (by omega)
  unfold putBit at hpb
  rw [if_neg h] at hpb
  simp (maxSteps := 4000000) -dsimp [-Y1, -Array.all_eq_true, -Y3, -Y4, and_assoc, Y5, Tryd.f85, l5BitC, h8, h7, h1, h0, h2]
  refine ⟨fun hlt => ⟨k.toNat - (i + 1), by omega, i + 1, by omega, rfl, ?_, ?_⟩, fun hge => ?_⟩
  · rw [wrap_i64 (by omega) (by omega)]; rfl
  · have := hpow (i + 1) (by omega)
    rw [Int.pow_succ] at this
    rw [wrap_u64 (by omega) (by omega), Int.pow_succ]
  · have : i = k.toNat := by omega
    subst this
    unfold putBit
    rw [if_neg h]
    cases b
    · simp at hpb ⊢
      rw [wrap_u64 (by omega) (by omega)]
    · simp at hpb ⊢
      rw [wrap_u64 (by omega) (by omega)]
def l5TurnedC : Con Tryd.prog := Con.pure 85 Tryd.call85 (fun (i : ((Int) × (Int) × (Bool))) => match i with | (x, k, b) => [.int .u64 x, .int .i64 k, .bool b]) (fun (i : ((Int) × (Int) × (Bool))) => match i with | (x, k, b) => 0 ≤ x ∧ x < 18446744073709551616 ∧ 0 ≤ k ∧ k < 64) (fun (i : ((Int) × (Int) × (Bool))) => match i with | (x, k, b) => .int .u64 (putBit x k.toNat b)) fun i w hp => l5TurnedC_c i.1 i.2.1 i.2.2 hp w
theorem sMemPutC_c (m : M) (k n p : Int) (b : Bool) (hpre : MOk m) (w : World) : Calls Tryd.prog 49 #[.agg (cells m), .agg #[.int .i64 k, .int .i64 n, .int .i64 p], .bool b] w fun e w' => e = .returned (.agg (cells (memPut m k n b))) ∧ RowKit.Below w.heap.size w w' := by
  refine (plain_of_vcs ⟨[l5AtC, l5TurnedC], []⟩ hmx Tryd.func49 rfl (by kernel_rfl) (args := [.agg (cells m), .agg #[.int .i64 k, .int .i64 n, .int .i64 p], .bool b]) (by simp [Tryd.ntmps49]) w (· = .agg (cells (memPut m k n b))) 400 ?_).mono fun e w' ⟨v, h1, h2, h3⟩ => ⟨h2 ▸ h1, h3⟩
  have hb := (place_bd k n).1
  obtain ⟨l1, l2, l3, l4, l5, l6, l7, l8, l9, l10⟩ := place_lt n
  have hb64 := (place_bd k n).2.2
  by_cases hk : k = 2 ∨ k = 3 ∨ k = 4 ∨ k = 5
  · obtain rfl | rfl | rfl | rfl := hk
    · have e := putBit_bd (b := 32) (j := (place 2 n).toNat) (c := b) hpre.Y.1 (by have := hpre.Y.2; omega) (by omega)
      have hY := hpre.Y
      simp (maxSteps := 4000000) -dsimp [-Y1, -Array.all_eq_true, -Y3, -Y4, and_assoc, Y5, Tryd.f49, l5AtC, l5TurnedC, memPut, hpre, hb, hb64, wrap_u64 hY.1 (by omega)]
      rw [wrap_u32 e.1 (by omega)]; omega
    · have hY := hpre.Mw
      simp (maxSteps := 4000000) -dsimp [-Y1, -Array.all_eq_true, -Y3, -Y4, and_assoc, Y5, Tryd.f49, l5AtC, l5TurnedC, memPut, hpre, hb, hb64]
      omega
    · have e := putBit_bd (b := 16) (j := (place 4 n).toNat) (c := b) hpre.S.1 (by have := hpre.S.2; omega) (by omega)
      have hY := hpre.S
      simp (maxSteps := 4000000) -dsimp [-Y1, -Array.all_eq_true, -Y3, -Y4, and_assoc, Y5, Tryd.f49, l5AtC, l5TurnedC, memPut, hpre, hb, hb64, wrap_u64 hY.1 (by omega)]
      rw [wrap_u16 e.1 (by omega)]; omega
    · have e := putBit_bd (b := 32) (j := (place 5 n).toNat) (c := b) hpre.E.1 (by have := hpre.E.2; omega) (by omega)
      have hY := hpre.E
      simp (maxSteps := 4000000) -dsimp [-Y1, -Array.all_eq_true, -Y3, -Y4, and_assoc, Y5, Tryd.f49, l5AtC, l5TurnedC, memPut, hpre, hb, hb64, wrap_u64 hY.1 (by omega)]
      rw [wrap_u32 e.1 (by omega)]; omega
  · have hm : memPut m k n b = m := by unfold memPut; (repeat' rw [if_neg (by omega)])
    simp (maxSteps := 4000000) -dsimp [-Y1, -Array.all_eq_true, -Y3, -Y4, and_assoc, Y5, Tryd.f49, l5AtC, l5TurnedC, hm]
    omega
def sMemPutC : Con Tryd.prog := Con.pure 49 Tryd.call49 (fun (i : ((M) × (Int) × (Int) × (Int) × (Bool))) => match i with | (m, k, n, p, b) => [.agg (cells m), .agg #[.int .i64 k, .int .i64 n, .int .i64 p], .bool b]) (fun (i : ((M) × (Int) × (Int) × (Int) × (Bool))) => match i with | (m, k, n, p, b) => MOk m) (fun (i : ((M) × (Int) × (Int) × (Int) × (Bool))) => match i with | (m, k, n, p, b) => .agg (cells (memPut m k n b))) fun i w hp => sMemPutC_c i.1 i.2.1 i.2.2.1 i.2.2.2.1 i.2.2.2.2 hp w
end Go.Proofs.YtmlmmaojomghdaaDoor
