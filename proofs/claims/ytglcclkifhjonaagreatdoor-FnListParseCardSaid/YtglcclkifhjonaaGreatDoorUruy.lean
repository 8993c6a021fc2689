/-
  Draws of instructions, of two lists, and of texts of lists.
-/
import Derived.Test.YtglcclkifhjonaaGreatDoorUouy
import Derived.Test.YtglcclkifhjonaaGreatDoorUduy
set_option linter.unusedVariables false
set_option linter.unusedSimpArgs false
set_option maxRecDepth 100000
set_option maxHeartbeats 4000000
namespace Go.Proofs.YtglcclkifhjonaaGreatDoor
open Go Go.Sx
attribute [local simp] Sx.vcsE1 Sx.vcsE2 Sx.vcsE3 Sx.vcsE4 Sx.vcsE5 Sx.vcsE6 Sx.vcsE7 Sx.vcsE8 Sx.vcsE9 Sx.vcsE10 Sx.vcsE11 Sx.vcsE12 Sx.vcsE13 Sx.vcsE14 Sx.vcsE15 Sx.vcsE16 Sx.vcsE17 Sx.vcsE18 Sx.vcsE19 Sx.get Sx.look Sx.put Sx.pureFn Sx.findOrd Sx.unF Sx.dstOk Sx.isFloatT Sx.endVC Sx.resFn Sx.packC Sx.newFn Sx.storeFn Sx.buildFn Sx.known Sx.aggT Sx.cellsC Sx.findCon Sx.allV Sx.partsV Sx.partsC Sx.fillL Sx.exitTo Sx.fAr Sx.eqFn Sx.eqFieldsFn Sx.eqElemsFn Sx.partFn Sx.sliceFn Sx.boundFn Sx.AppV Sx.CopyV Sx.MakeSliceV Sx.NewsV Sx.GrowV Sx.TextV Sx.bytesL Sx.notInt Sx.typeAt Sx.argAt Sx.den Go.undef Go.Value.cells Go.Value.oneCell' Sx.Con.pure Sx.Con.some Sx.Con.read Sx.Con.make Sx.Con.ext Sx.Con.rel Sx.Con.extS Sx.Con.draw Sx.Con.step Sx.C.one Sx.Draws.steps

theorem manyC_c (t : Str) (n : Int) (hpre : t.length ≤ 10 ∧ n ≤ 60000) (w : World) : Calls Tryz.prog 55 #[.string (txt t), .int .i64 n] w fun e w' => ∃ v, e = .returned v ∧ (fun v => ∃ z : Str, v = .string (txt z) ∧ z.length ≤ 600000) v ∧ RowKit.Below w.heap.size w w' := by
  refine plain_of_vcs ⟨[], []⟩ hmx Tryz.func55 rfl (by kernel_rfl) (args := [.string (txt t), .int .i64 n]) (by simp [Tryz.ntmps55]) w (fun v => ∃ z : Str, v = .string (txt z) ∧ z.length ≤ 600000) 300 ?_
  obtain ⟨hl, h1⟩ := hpre
  by_cases h0 : 0 ≤ n
  case' neg =>
    have hn0 : ¬ (0 : Int) < n := by omega
    simp (maxSteps := 4000000) -dsimp [-List.all_eq_true, -Array.all_eq_true, -Bool.exists_bool, -Bool.forall_bool, and_assoc, List.zipIdx, Tryz.f55]
    refine loop_unroll (σ := ⟨[], []⟩) (n := 300) hmx (by kernel_rfl) ?_
    simp (maxSteps := 4000000) -dsimp [-List.all_eq_true, -Array.all_eq_true, -Bool.exists_bool, -Bool.forall_bool, and_assoc, List.zipIdx, Tryz.f55, hn0]
    exact ⟨[], rfl, by simp⟩
  obtain ⟨k0, rfl⟩ : ∃ k : Nat, n = k := ⟨n.toNat, by omega⟩
  have hkl : k0 * t.length ≤ 600000 := Nat.le_trans (Nat.mul_le_mul (Nat.le_refl _) hl) (by omega)
  simp (maxSteps := 4000000) -dsimp [-List.all_eq_true, -Array.all_eq_true, -Bool.exists_bool, -Bool.forall_bool, and_assoc, List.zipIdx, Tryz.f55]
  refine loop_inv (σ := ⟨[], []⟩) hmx (by kernel_rfl) (fun m cx tm mem => cx = ⟨w, [], w, []⟩ ∧ mem = [] ∧ ∃ (s z : Str), s.length ≤ 1200000 ∧ z.length + m * s.length ≤ 600000 ∧ m ≤ 60000 ∧ Sx.look tm 0 = .v (.string (txt s)) ∧ Sx.look tm 1 = .v (.int .i64 m) ∧ Sx.look tm 5 = .v (.string (txt z)))
    k0 ⟨rfl, rfl, t, [], by omega, by simpa using hkl, by omega, by simp [Sx.look], by simp [Sx.look], by simp [Sx.look, txt]⟩ ?_
  rintro m cx tm mem ⟨rfl, rfl, s, z, hs, hz, hm, j0, j1, j5⟩
  refine ⟨300, ?_⟩
  by_cases hp : 0 < m
  · have hp' : (0 : Int) < m := by omega
    have hs2 : s.length ≤ 600000 := by
      have := Nat.le_mul_of_pos_left s.length hp
      omega
    obtain ⟨P, hP | hP⟩ : ∃ P, m = 2 * P ∨ m = 2 * P + 1 := ⟨m / 2, by omega⟩
    · subst hP
      have q1 : ((2 * P : Nat) : Int).tmod 2 = 0 := by rw [Int.tmod_eq_emod_of_nonneg (by omega)]; omega
      have q2 : ((2 * P : Nat) : Int).tdiv 2 = P := by rw [Int.tdiv_eq_ediv_of_nonneg (by omega)]; omega
      have hw : IntKind.i64.wrap (P : Int) = P := wrap_i64 (by omega) (by omega)
      simp (maxSteps := 4000000) -dsimp [-List.all_eq_true, -Array.all_eq_true, -Bool.exists_bool, -Bool.forall_bool, and_assoc, List.zipIdx, Tryz.f55, j0, j1, j5, hp, hp', q1, q2]
      refine ⟨fun _ => ⟨by omega, P, by omega, s ++ s, by simp; omega, z, ?_, by omega, rfl, hw, rfl⟩, fun h => by omega⟩
      have : P * (s ++ s).length = 2 * P * s.length := by rw [List.length_append, ← Nat.two_mul, Nat.mul_comm 2 P, Nat.mul_assoc]
      rw [this]; exact hz
    · subst hP
      have q1 : ((2 * P + 1 : Nat) : Int).tmod 2 = 1 := by rw [Int.tmod_eq_emod_of_nonneg (by omega)]; omega
      have q2 : ((2 * P + 1 : Nat) : Int).tdiv 2 = P := by rw [Int.tdiv_eq_ediv_of_nonneg (by omega)]; omega
      have hw : IntKind.i64.wrap (P : Int) = P := wrap_i64 (by omega) (by omega)
      have q3 : (2 * (P : Int) + 1).tmod 2 = 1 := by rw [Int.tmod_eq_emod_of_nonneg (by omega)]; omega
      have q4 : (2 * (P : Int) + 1).tdiv 2 = P := by rw [Int.tdiv_eq_ediv_of_nonneg (by omega)]; omega
      have hz2 : (2 * P + 1) * s.length = P * (s ++ s).length + s.length := by rw [List.length_append, Nat.add_mul, Nat.one_mul, ← Nat.two_mul, Nat.mul_comm 2 P, Nat.mul_assoc]
      rw [hz2] at hz
      simp (maxSteps := 4000000) -dsimp [-List.all_eq_true, -Array.all_eq_true, -Bool.exists_bool, -Bool.forall_bool, and_assoc, List.zipIdx, Tryz.f55, j0, j1, j5, hp, hp', q1, q2, q3, q4]
      refine ⟨fun _ => ⟨by omega, by omega, P, by omega, s ++ s, by simp; omega, z ++ s, ?_, by omega, rfl, hw, rfl⟩, fun h => by omega⟩
      simp only [List.length_append] at hz ⊢; omega
  · obtain rfl : m = 0 := by omega
    simp (maxSteps := 4000000) -dsimp [-List.all_eq_true, -Array.all_eq_true, -Bool.exists_bool, -Bool.forall_bool, and_assoc, List.zipIdx, Tryz.f55, j0, j1, j5]
    omega
def manyC : Con Tryz.prog := Con.some 55 Tryz.call55 (fun (i : ((Str) × (Int))) => match i with | (t, n) => [.string (txt t), .int .i64 n]) (fun (i : ((Str) × (Int))) => match i with | (t, n) => t.length ≤ 10 ∧ n ≤ 60000) (fun (i : ((Str) × (Int))) => match i with | (t, n) => fun v => ∃ z : Str, v = .string (txt z) ∧ z.length ≤ 600000) fun i w hp => manyC_c i.1 i.2 hp w
end Go.Proofs.YtglcclkifhjonaaGreatDoor
