/-
  Contracts: the reference traces a list.
-/
import Derived.Test.YtnnpmopnnamakaaIlw1
import Derived.Test.YtnnpmopnnamakaaSvw1
set_option linter.unusedVariables false
set_option linter.unusedSimpArgs false
set_option maxRecDepth 100000
set_option maxHeartbeats 4000000
namespace Go.Proofs.Ytnnpmopnnamakaa
open Go Go.Sx
open List renaming all_eq_true → Y1, zipIdx → Y5
open Bool renaming exists_bool → Y3, forall_bool → Y4
attribute [local simp] Sx.vcsE1 Sx.vcsE2 Sx.vcsE3 Sx.vcsE4 Sx.vcsE5 Sx.vcsE6 Sx.vcsE7 Sx.vcsE8 Sx.vcsE9 Sx.vcsE10 Sx.vcsE11 Sx.vcsE12 Sx.vcsE13 Sx.vcsE14 Sx.vcsE15 Sx.vcsE16 Sx.vcsE17 Sx.vcsE18 Sx.vcsE19 Sx.get Sx.look Sx.put Sx.pureFn Sx.findOrd Sx.unF Sx.dstOk Sx.isFloatT Sx.endVC Sx.resFn Sx.packC Sx.newFn Sx.storeFn Sx.buildFn Sx.known Sx.aggT Sx.cellsC Sx.findCon Sx.allV Sx.partsV Sx.partsC Sx.fillL Sx.exitTo Sx.fAr Sx.eqFn Sx.eqFieldsFn Sx.eqElemsFn Sx.partFn Sx.sliceFn Sx.boundFn Sx.AppV Sx.CopyV Sx.MakeSliceV Sx.NewsV Sx.GrowV Sx.TextV Sx.bytesL Sx.notInt Sx.typeAt Sx.argAt Sx.den Go.undef Go.Value.cells Go.Value.oneCell' Sx.Con.pure Sx.Con.some Sx.Con.read Sx.Con.make Sx.Con.ext Sx.Con.rel Sx.Con.extS Sx.Con.draw Sx.Con.step Sx.C.one Sx.Draws.steps

theorem heightsC_c (c : Int) (w : World) : Calls Try.prog 46 #[.int .i64 c] w fun e w' => e = .returned (.agg #[.int .i64 (dB c), .int .i64 (dF c)]) ∧ RowKit.Below w.heap.size w w' := by
  refine (plain_of_vcs ⟨[], []⟩ hmx Try.func46 rfl (by kernel_rfl) (args := [.int .i64 c]) (by simp [Try.ntmps46]) w (· = .agg #[.int .i64 (dB c), .int .i64 (dF c)]) 400 ?_).mono fun e w' ⟨v, h1, h2, h3⟩ => ⟨h2 ▸ h1, h3⟩
  by_cases h1 : c = 1
  · subst h1; simp (maxSteps := 4000000) -dsimp [-Y1, -Array.all_eq_true, -Y3, -Y4, and_assoc, Y5, Try.f46, dB, dF]
  · by_cases h4 : c = 4
    · subst h4; simp (maxSteps := 4000000) -dsimp [-Y1, -Array.all_eq_true, -Y3, -Y4, and_assoc, Y5, Try.f46, dB, dF]
    · by_cases h5 : c = 5
      · subst h5; simp (maxSteps := 4000000) -dsimp [-Y1, -Array.all_eq_true, -Y3, -Y4, and_assoc, Y5, Try.f46, dB, dF]
      · by_cases h11 : c = 11
        · subst h11; simp (maxSteps := 4000000) -dsimp [-Y1, -Array.all_eq_true, -Y3, -Y4, and_assoc, Y5, Try.f46, dB, dF]
        · by_cases h7 : c = 7
          · subst h7; simp (maxSteps := 4000000) -dsimp [-Y1, -Array.all_eq_true, -Y3, -Y4, and_assoc, Y5, Try.f46, dB, dF]
          · by_cases h9 : c = 9
            · subst h9; simp (maxSteps := 4000000) -dsimp [-Y1, -Array.all_eq_true, -Y3, -Y4, and_assoc, Y5, Try.f46, dB, dF]
            · simp (maxSteps := 4000000) -dsimp [-Y1, -Array.all_eq_true, -Y3, -Y4, and_assoc, Y5, Try.f46, dB, dF, h1, h4, h5, h11, h7, h9]
def heightsC : Con Try.prog := Con.pure 46 Try.call46 (fun (c : ((Int))) => [.int .i64 c]) (fun (c : ((Int))) => True) (fun (c : ((Int))) => .agg #[.int .i64 (dB c), .int .i64 (dF c)]) fun c w _ => heightsC_c c w
theorem thenC_c (a b c : Int) (hpre : -1048576 ≤ a ∧ a ≤ 1048576 ∧ -1048576 ≤ b ∧ b ≤ 1048576) (w : World) : Calls Try.prog 29 #[.agg #[.int .i64 a, .int .i64 b], .int .i64 c] w fun e w' => e = .returned (.agg #[.int .i64 (a + dB c), .int .i64 (b + dF c)]) ∧ RowKit.Below w.heap.size w w' := by
  refine (plain_of_vcs ⟨[heightsC], []⟩ hmx Try.func29 rfl (by kernel_rfl) (args := [.agg #[.int .i64 a, .int .i64 b], .int .i64 c]) (by simp [Try.ntmps29]) w (· = .agg #[.int .i64 (a + dB c), .int .i64 (b + dF c)]) 400 ?_).mono fun e w' ⟨v, h1, h2, h3⟩ => ⟨h2 ▸ h1, h3⟩
  have h1 := dB_abs c
  have h2 := dF_abs c
  have e1 : IntKind.i64.wrap (a + dB c) = a + dB c := wrap_i64 (by omega) (by omega)
  have e2 : IntKind.i64.wrap (b + dF c) = b + dF c := wrap_i64 (by omega) (by omega)
  simp (maxSteps := 4000000) -dsimp [-Y1, -Array.all_eq_true, -Y3, -Y4, and_assoc, Y5, Try.f29, heightsC, e1, e2]
def thenC : Con Try.prog := Con.pure 29 Try.call29 (fun (i : ((Int) × (Int) × (Int))) => match i with | (a, b, c) => [.agg #[.int .i64 a, .int .i64 b], .int .i64 c]) (fun (i : ((Int) × (Int) × (Int))) => match i with | (a, b, c) => -1048576 ≤ a ∧ a ≤ 1048576 ∧ -1048576 ≤ b ∧ b ≤ 1048576) (fun (i : ((Int) × (Int) × (Int))) => match i with | (a, b, c) => .agg #[.int .i64 (a + dB c), .int .i64 (b + dF c)]) fun i w hp => thenC_c i.1 i.2.1 i.2.2 hp w
end Go.Proofs.Ytnnpmopnnamakaa
namespace Go.Proofs.Ytnnpmopnnamakaa
open Go Go.Sx

theorem code_cases (c : Int) : c = 1 ∨ c = 4 ∨ c = 5 ∨ c = 11 ∨ c = 7 ∨ c = 9 ∨ (c ≠ 1 ∧ c ≠ 4 ∧ c ≠ 5 ∧ c ≠ 11 ∧ c ≠ 7 ∧ c ≠ 9) := by omega
end Go.Proofs.Ytnnpmopnnamakaa
