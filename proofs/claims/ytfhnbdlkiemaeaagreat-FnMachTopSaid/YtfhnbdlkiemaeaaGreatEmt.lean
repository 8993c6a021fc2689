/-
  Contracts: numbers in the memory.
-/
import Derived.Test.YtfhnbdlkiemaeaaGreatAmt
set_option linter.unusedVariables false
set_option linter.unusedSimpArgs false
set_option maxRecDepth 100000
set_option maxHeartbeats 4000000
namespace Go.Proofs.YtfhnbdlkiemaeaaGreat
open Go Go.Sx
open List renaming all_eq_true → Y1, zipIdx → Y5
open Bool renaming exists_bool → Y3, forall_bool → Y4
attribute [local simp] Sx.vcsE1 Sx.vcsE2 Sx.vcsE3 Sx.vcsE4 Sx.vcsE5 Sx.vcsE6 Sx.vcsE7 Sx.vcsE8 Sx.vcsE9 Sx.vcsE10 Sx.vcsE11 Sx.vcsE12 Sx.vcsE13 Sx.vcsE14 Sx.vcsE15 Sx.vcsE16 Sx.vcsE17 Sx.vcsE18 Sx.vcsE19 Sx.get Sx.look Sx.put Sx.pureFn Sx.findOrd Sx.unF Sx.dstOk Sx.isFloatT Sx.endVC Sx.resFn Sx.packC Sx.newFn Sx.storeFn Sx.buildFn Sx.known Sx.aggT Sx.cellsC Sx.findCon Sx.allV Sx.partsV Sx.partsC Sx.fillL Sx.exitTo Sx.fAr Sx.eqFn Sx.eqFieldsFn Sx.eqElemsFn Sx.partFn Sx.sliceFn Sx.boundFn Sx.AppV Sx.CopyV Sx.MakeSliceV Sx.NewsV Sx.GrowV Sx.TextV Sx.bytesL Sx.notInt Sx.typeAt Sx.argAt Sx.den Go.undef Go.Value.cells Go.Value.oneCell' Sx.Con.pure Sx.Con.some Sx.Con.read Sx.Con.make Sx.Con.ext Sx.Con.rel Sx.Con.extS Sx.Con.draw Sx.Con.step Sx.C.one Sx.Draws.steps

theorem wrap_min {a : Int} (h : 0 ≤ a ∧ a < 65536) : IntKind.i16.wrap (if 32767 < a then 32767 else a) = min a 32767 := by
  split <;> rw [wrap_i16 (by omega) (by omega)] <;> omega
theorem wrap16 {n : Int} : IntKind.i16.wrap n = if n.tmod 65536 < -32768 then n.tmod 65536 + 65536 else if 32767 < n.tmod 65536 then n.tmod 65536 - 65536 else n.tmod 65536 := by
  simp only [IntKind.wrap, IntKind.signed, IntKind.bits]
  have h1 := Int.lt_tmod_of_pos n (b := 65536) (by omega)
  have h2 := Int.tmod_lt_of_pos n (b := 65536) (by omega)
  have h3 := Int.emod_nonneg n (b := 65536) (by omega)
  have h4 := Int.emod_lt_of_pos n (b := 65536) (by omega)
  have h5 : (n.tmod 65536 - n % 65536) % 65536 = 0 := by
    have := Int.tmod_add_mul_tdiv n 65536
    have := Int.emod_add_mul_ediv n 65536
    omega
  simp
  (repeat' split) <;> omega

theorem memWholeC_c (m : M) (k n p : Int) (hpre : MOk m) (w : World) : Calls Tryz.prog 118 #[.agg (cells m), .agg #[.int .i64 k, .int .i64 n, .int .i64 p]] w fun e w' => e = .returned (.int .i16 (memWhole m k n)) ∧ RowKit.Below w.heap.size w w' := by
  refine (plain_of_vcs ⟨[placeC], []⟩ hmx Tryz.func118 rfl (by kernel_rfl) (args := [.agg (cells m), .agg #[.int .i64 k, .int .i64 n, .int .i64 p]]) (by simp [Tryz.ntmps118]) w (· = .int .i16 (memWhole m k n)) 400 ?_).mono fun e w' ⟨v, h1, h2, h3⟩ => ⟨h2 ▸ h1, h3⟩
  have hb := (place_bd k n).1
  obtain ⟨l1, l2, l3, l4, l5, l6, l7, l8, l9, l10⟩ := place_lt n
  by_cases hk : k = 7 ∨ k = 8 ∨ k = 9 ∨ k = 11
  · obtain rfl | rfl | rfl | rfl := hk
    all_goals simp (maxSteps := 4000000) -dsimp [-Y1, -Array.all_eq_true, -Y3, -Y4, and_assoc, Y5, Tryz.f118, placeC, memWhole, hpre, hb, l7, l8, l9]
    · rw [get_T1 m _ (by omega)]; simp [wrap_min (hpre.T _ (show (place 7 n).toNat < 16 by omega))]
    · rw [get_C2 m _ (by omega)]; simp [wrap_min (hpre.C _ (show (place 8 n).toNat < 16 by omega))]
    · rw [get_D m _ (by omega)]; simp
  · have hm : memWhole m k n = 0 := by unfold memWhole; (repeat' rw [if_neg (by omega)])
    simp (maxSteps := 4000000) -dsimp [-Y1, -Array.all_eq_true, -Y3, -Y4, and_assoc, Y5, Tryz.f118, placeC, hm]
    omega
def memWholeC : Con Tryz.prog := Con.pure 118 Tryz.call118 (fun (i : ((M) × (Int) × (Int) × (Int))) => match i with | (m, k, n, p) => [.agg (cells m), .agg #[.int .i64 k, .int .i64 n, .int .i64 p]]) (fun (i : ((M) × (Int) × (Int) × (Int))) => match i with | (m, k, n, p) => MOk m) (fun (i : ((M) × (Int) × (Int) × (Int))) => match i with | (m, k, n, p) => .int .i16 (memWhole m k n)) fun i w hp => memWholeC_c i.1 i.2.1 i.2.2.1 i.2.2.2 hp w
theorem l5LeastC_c (n : Int) (hpre : 0 ≤ n ∧ n < 65536) (w : World) : Calls Tryz.prog 194 #[.int .u16 n] w fun e w' => e = .returned (.int .i16 (min n 32767)) ∧ RowKit.Below w.heap.size w w' := by
  refine (plain_of_vcs ⟨[], []⟩ hmx Tryz.func194 rfl (by kernel_rfl) (args := [.int .u16 n]) (by simp [Tryz.ntmps194]) w (· = .int .i16 (min n 32767)) 400 ?_).mono fun e w' ⟨v, h1, h2, h3⟩ => ⟨h2 ▸ h1, h3⟩
  obtain ⟨h1, h2⟩ := hpre
  simp (maxSteps := 4000000) -dsimp [-Y1, -Array.all_eq_true, -Y3, -Y4, and_assoc, Y5, Tryz.f194]
  refine ⟨fun h => by omega, fun h => ?_⟩
  rw [wrap_i16 (by omega) (by omega)]; omega
def l5LeastC : Con Tryz.prog := Con.pure 194 Tryz.call194 (fun (n : ((Int))) => [.int .u16 n]) (fun (n : ((Int))) => 0 ≤ n ∧ n < 65536) (fun (n : ((Int))) => .int .i16 (min n 32767)) fun n w hp => l5LeastC_c n hp w
theorem l3WrapC_c (n : Int) (w : World) : Calls Tryz.prog 195 #[.int .i64 n] w fun e w' => e = .returned (.int .i16 (IntKind.i16.wrap n)) ∧ RowKit.Below w.heap.size w w' := by
  refine (plain_of_vcs ⟨[], []⟩ hmx Tryz.func195 rfl (by kernel_rfl) (args := [.int .i64 n]) (by simp [Tryz.ntmps195]) w (· = .int .i16 (IntKind.i16.wrap n)) 400 ?_).mono fun e w' ⟨v, h1, h2, h3⟩ => ⟨h2 ▸ h1, h3⟩
  have h1 := Int.lt_tmod_of_pos n (b := 65536) (by omega)
  have h2 := Int.tmod_lt_of_pos n (b := 65536) (by omega)
  have e := wrap16 (n := n)
  simp (maxSteps := 4000000) -dsimp [-Y1, -Array.all_eq_true, -Y3, -Y4, and_assoc, Y5, Tryz.f195]
  generalize n.tmod 65536 = t at *
  generalize IntKind.i16.wrap n = r at *
  refine ⟨fun h => ?_, fun h => ?_⟩
  · rw [wrap_i64 (by omega) (by omega)]
    refine ⟨fun h' => by omega, fun h' => ?_⟩
    rw [wrap_i16 (by omega) (by omega)]; omega
  · refine ⟨fun h' => ?_, fun h' => ?_⟩
    · rw [wrap_i64 (by omega) (by omega), wrap_i16 (by omega) (by omega)]; omega
    · rw [wrap_i16 (by omega) (by omega)]; omega
def l3WrapC : Con Tryz.prog := Con.pure 195 Tryz.call195 (fun (n : ((Int))) => [.int .i64 n]) (fun (n : ((Int))) => True) (fun (n : ((Int))) => .int .i16 (IntKind.i16.wrap n)) fun n w _ => l3WrapC_c n w
theorem sMemWholeC_c (m : M) (k n p : Int) (hpre : MOk m) (w : World) : Calls Tryz.prog 154 #[.agg (cells m), .agg #[.int .i64 k, .int .i64 n, .int .i64 p]] w fun e w' => e = .returned (.int .i16 (memWhole m k n)) ∧ RowKit.Below w.heap.size w w' := by
  refine (plain_of_vcs ⟨[l5AtC, l5LeastC, l3WrapC], []⟩ hmx Tryz.func154 rfl (by kernel_rfl) (args := [.agg (cells m), .agg #[.int .i64 k, .int .i64 n, .int .i64 p]]) (by simp [Tryz.ntmps154]) w (· = .int .i16 (memWhole m k n)) 400 ?_).mono fun e w' ⟨v, h1, h2, h3⟩ => ⟨h2 ▸ h1, h3⟩
  have hb := (place_bd k n).1
  obtain ⟨l1, l2, l3, l4, l5, l6, l7, l8, l9, l10⟩ := place_lt n
  by_cases hk : k = 7 ∨ k = 8 ∨ k = 9 ∨ k = 11
  · obtain rfl | rfl | rfl | rfl := hk
    all_goals simp (maxSteps := 4000000) -dsimp [-Y1, -Array.all_eq_true, -Y3, -Y4, and_assoc, Y5, Tryz.f154, l5AtC, l5LeastC, l3WrapC, memWhole, hpre, hb, l7, l8, l9]
    · rw [get_T1 m _ (by omega)]; simp [hpre.T _ (show (place 7 n).toNat < 16 by omega)]
    · rw [get_C2 m _ (by omega)]; simp [hpre.C _ (show (place 8 n).toNat < 16 by omega)]
    · rw [get_D m _ (by omega)]; simp
  · have hm : memWhole m k n = 0 := by unfold memWhole; (repeat' rw [if_neg (by omega)])
    simp (maxSteps := 4000000) -dsimp [-Y1, -Array.all_eq_true, -Y3, -Y4, and_assoc, Y5, Tryz.f154, l5AtC, l5LeastC, l3WrapC, hm]
    omega
def sMemWholeC : Con Tryz.prog := Con.pure 154 Tryz.call154 (fun (i : ((M) × (Int) × (Int) × (Int))) => match i with | (m, k, n, p) => [.agg (cells m), .agg #[.int .i64 k, .int .i64 n, .int .i64 p]]) (fun (i : ((M) × (Int) × (Int) × (Int))) => match i with | (m, k, n, p) => MOk m) (fun (i : ((M) × (Int) × (Int) × (Int))) => match i with | (m, k, n, p) => .int .i16 (memWhole m k n)) fun i w hp => sMemWholeC_c i.1 i.2.1 i.2.2.1 i.2.2.2 hp w
theorem memPutWholeC_c (m : M) (k n p v : Int) (w : World) : Calls Tryz.prog 129 #[.agg (cells m), .agg #[.int .i64 k, .int .i64 n, .int .i64 p], .int .i16 v] w fun e w' => e = .returned (.agg (cells (memPutWhole m k n v))) ∧ RowKit.Below w.heap.size w w' := by
  refine (plain_of_vcs ⟨[placeC], []⟩ hmx Tryz.func129 rfl (by kernel_rfl) (args := [.agg (cells m), .agg #[.int .i64 k, .int .i64 n, .int .i64 p], .int .i16 v]) (by simp [Tryz.ntmps129]) w (· = .agg (cells (memPutWhole m k n v))) 400 ?_).mono fun e w' ⟨v, h1, h2, h3⟩ => ⟨h2 ▸ h1, h3⟩
  have hb := (place_bd k n).1
  obtain ⟨l1, l2, l3, l4, l5, l6, l7, l8, l9, l10⟩ := place_lt n
  by_cases hk : k = 9
  · subst hk
    have e := fun x => set_D m x (place 9 n).toNat (by omega)
    simp (maxSteps := 4000000) -dsimp [-Y1, -Array.all_eq_true, -Y3, -Y4, and_assoc, Y5, Tryz.f129, placeC, memPutWhole, hb, l9, e]
    omega
  · have hm : memPutWhole m k n v = m := by unfold memPutWhole; rw [if_neg hk]
    simp (maxSteps := 4000000) -dsimp [-Y1, -Array.all_eq_true, -Y3, -Y4, and_assoc, Y5, Tryz.f129, placeC, hm, hk]
def memPutWholeC : Con Tryz.prog := Con.pure 129 Tryz.call129 (fun (i : ((M) × (Int) × (Int) × (Int) × (Int))) => match i with | (m, k, n, p, v) => [.agg (cells m), .agg #[.int .i64 k, .int .i64 n, .int .i64 p], .int .i16 v]) (fun (i : ((M) × (Int) × (Int) × (Int) × (Int))) => match i with | (m, k, n, p, v) => True) (fun (i : ((M) × (Int) × (Int) × (Int) × (Int))) => match i with | (m, k, n, p, v) => .agg (cells (memPutWhole m k n v))) fun i w _ => memPutWholeC_c i.1 i.2.1 i.2.2.1 i.2.2.2.1 i.2.2.2.2 w
theorem sMemPutWholeC_c (m : M) (k n p v : Int) (w : World) : Calls Tryz.prog 234 #[.agg (cells m), .agg #[.int .i64 k, .int .i64 n, .int .i64 p], .int .i16 v] w fun e w' => e = .returned (.agg (cells (memPutWhole m k n v))) ∧ RowKit.Below w.heap.size w w' := by
  refine (plain_of_vcs ⟨[l5AtC], []⟩ hmx Tryz.func234 rfl (by kernel_rfl) (args := [.agg (cells m), .agg #[.int .i64 k, .int .i64 n, .int .i64 p], .int .i16 v]) (by simp [Tryz.ntmps234]) w (· = .agg (cells (memPutWhole m k n v))) 400 ?_).mono fun e w' ⟨v, h1, h2, h3⟩ => ⟨h2 ▸ h1, h3⟩
  have hb := (place_bd k n).1
  obtain ⟨l1, l2, l3, l4, l5, l6, l7, l8, l9, l10⟩ := place_lt n
  by_cases hk : k = 9
  · subst hk
    have e := fun x => set_D m x (place 9 n).toNat (by omega)
    simp (maxSteps := 4000000) -dsimp [-Y1, -Array.all_eq_true, -Y3, -Y4, and_assoc, Y5, Tryz.f234, l5AtC, memPutWhole, hb, l9, e]
    omega
  · have hm : memPutWhole m k n v = m := by unfold memPutWhole; rw [if_neg hk]
    simp (maxSteps := 4000000) -dsimp [-Y1, -Array.all_eq_true, -Y3, -Y4, and_assoc, Y5, Tryz.f234, l5AtC, hm, hk]
def sMemPutWholeC : Con Tryz.prog := Con.pure 234 Tryz.call234 (fun (i : ((M) × (Int) × (Int) × (Int) × (Int))) => match i with | (m, k, n, p, v) => [.agg (cells m), .agg #[.int .i64 k, .int .i64 n, .int .i64 p], .int .i16 v]) (fun (i : ((M) × (Int) × (Int) × (Int) × (Int))) => match i with | (m, k, n, p, v) => True) (fun (i : ((M) × (Int) × (Int) × (Int) × (Int))) => match i with | (m, k, n, p, v) => .agg (cells (memPutWhole m k n v))) fun i w _ => sMemPutWholeC_c i.1 i.2.1 i.2.2.1 i.2.2.2.1 i.2.2.2.2 w
theorem memPutRealC_c (m : M) (k n p : Int) (v : Nat) (w : World) : Calls Tryz.prog 128 #[.agg (cells m), .agg #[.int .i64 k, .int .i64 n, .int .i64 p], .float .f64 v] w fun e w' => e = .returned (.agg (cells (memPutReal m k n v))) ∧ RowKit.Below w.heap.size w w' := by
  refine (plain_of_vcs ⟨[placeC], []⟩ hmx Tryz.func128 rfl (by kernel_rfl) (args := [.agg (cells m), .agg #[.int .i64 k, .int .i64 n, .int .i64 p], .float .f64 v]) (by simp [Tryz.ntmps128]) w (· = .agg (cells (memPutReal m k n v))) 400 ?_).mono fun e w' ⟨v, h1, h2, h3⟩ => ⟨h2 ▸ h1, h3⟩
  have hb := (place_bd k n).1
  obtain ⟨l1, l2, l3, l4, l5, l6, l7, l8, l9, l10⟩ := place_lt n
  by_cases hk : k = 10
  · subst hk
    have e := fun x => set_R m x (place 10 n).toNat (by omega)
    simp (maxSteps := 4000000) -dsimp [-Y1, -Array.all_eq_true, -Y3, -Y4, and_assoc, Y5, Tryz.f128, placeC, memPutReal, hb, l10, e]
    omega
  · have hm : memPutReal m k n v = m := by unfold memPutReal; rw [if_neg hk]
    simp (maxSteps := 4000000) -dsimp [-Y1, -Array.all_eq_true, -Y3, -Y4, and_assoc, Y5, Tryz.f128, placeC, hm, hk]
def memPutRealC : Con Tryz.prog := Con.pure 128 Tryz.call128 (fun (i : ((M) × (Int) × (Int) × (Int) × (Nat))) => match i with | (m, k, n, p, v) => [.agg (cells m), .agg #[.int .i64 k, .int .i64 n, .int .i64 p], .float .f64 v]) (fun (i : ((M) × (Int) × (Int) × (Int) × (Nat))) => match i with | (m, k, n, p, v) => True) (fun (i : ((M) × (Int) × (Int) × (Int) × (Nat))) => match i with | (m, k, n, p, v) => .agg (cells (memPutReal m k n v))) fun i w _ => memPutRealC_c i.1 i.2.1 i.2.2.1 i.2.2.2.1 i.2.2.2.2 w
theorem sMemPutRealC_c (m : M) (k n p : Int) (v : Nat) (w : World) : Calls Tryz.prog 232 #[.agg (cells m), .agg #[.int .i64 k, .int .i64 n, .int .i64 p], .float .f64 v] w fun e w' => e = .returned (.agg (cells (memPutReal m k n v))) ∧ RowKit.Below w.heap.size w w' := by
  refine (plain_of_vcs ⟨[l5AtC], []⟩ hmx Tryz.func232 rfl (by kernel_rfl) (args := [.agg (cells m), .agg #[.int .i64 k, .int .i64 n, .int .i64 p], .float .f64 v]) (by simp [Tryz.ntmps232]) w (· = .agg (cells (memPutReal m k n v))) 400 ?_).mono fun e w' ⟨v, h1, h2, h3⟩ => ⟨h2 ▸ h1, h3⟩
  have hb := (place_bd k n).1
  obtain ⟨l1, l2, l3, l4, l5, l6, l7, l8, l9, l10⟩ := place_lt n
  by_cases hk : k = 10
  · subst hk
    have e := fun x => set_R m x (place 10 n).toNat (by omega)
    simp (maxSteps := 4000000) -dsimp [-Y1, -Array.all_eq_true, -Y3, -Y4, and_assoc, Y5, Tryz.f232, l5AtC, memPutReal, hb, l10, e]
    omega
  · have hm : memPutReal m k n v = m := by unfold memPutReal; rw [if_neg hk]
    simp (maxSteps := 4000000) -dsimp [-Y1, -Array.all_eq_true, -Y3, -Y4, and_assoc, Y5, Tryz.f232, l5AtC, hm, hk]
def sMemPutRealC : Con Tryz.prog := Con.pure 232 Tryz.call232 (fun (i : ((M) × (Int) × (Int) × (Int) × (Nat))) => match i with | (m, k, n, p, v) => [.agg (cells m), .agg #[.int .i64 k, .int .i64 n, .int .i64 p], .float .f64 v]) (fun (i : ((M) × (Int) × (Int) × (Int) × (Nat))) => match i with | (m, k, n, p, v) => True) (fun (i : ((M) × (Int) × (Int) × (Int) × (Nat))) => match i with | (m, k, n, p, v) => .agg (cells (memPutReal m k n v))) fun i w _ => sMemPutRealC_c i.1 i.2.1 i.2.2.1 i.2.2.2.1 i.2.2.2.2 w
theorem actEndC_c (m : M) (w : World) : Calls Tryz.prog 36 #[.agg (cells m)] w fun e w' => e = .returned (.agg (cells { m with Ran := true })) ∧ RowKit.Below w.heap.size w w' := by
  refine (plain_of_vcs ⟨[], []⟩ hmx Tryz.func36 rfl (by kernel_rfl) (args := [.agg (cells m)]) (by simp [Tryz.ntmps36]) w (· = .agg (cells { m with Ran := true })) 400 ?_).mono fun e w' ⟨v, h1, h2, h3⟩ => ⟨h2 ▸ h1, h3⟩
  simp (maxSteps := 4000000) -dsimp [-Y1, -Array.all_eq_true, -Y3, -Y4, and_assoc, Y5, Tryz.f36]
def actEndC : Con Tryz.prog := Con.pure 36 Tryz.call36 (fun (m : ((M))) => [.agg (cells m)]) (fun (m : ((M))) => True) (fun (m : ((M))) => .agg (cells { m with Ran := true })) fun m w _ => actEndC_c m w
theorem sActEndC_c (m : M) (w : World) : Calls Tryz.prog 45 #[.agg (cells m)] w fun e w' => e = .returned (.agg (cells { m with Ran := true })) ∧ RowKit.Below w.heap.size w w' := by
  refine (plain_of_vcs ⟨[], []⟩ hmx Tryz.func45 rfl (by kernel_rfl) (args := [.agg (cells m)]) (by simp [Tryz.ntmps45]) w (· = .agg (cells { m with Ran := true })) 400 ?_).mono fun e w' ⟨v, h1, h2, h3⟩ => ⟨h2 ▸ h1, h3⟩
  simp (maxSteps := 4000000) -dsimp [-Y1, -Array.all_eq_true, -Y3, -Y4, and_assoc, Y5, Tryz.f45]
def sActEndC : Con Tryz.prog := Con.pure 45 Tryz.call45 (fun (m : ((M))) => [.agg (cells m)]) (fun (m : ((M))) => True) (fun (m : ((M))) => .agg (cells { m with Ran := true })) fun m w _ => sActEndC_c m w
end Go.Proofs.YtfhnbdlkiemaeaaGreat
