/-
  Contracts: two memories are compared.
-/
import Derived.Test.YtfhnbdlkiemaeaaGreatPmw
import Derived.Test.YtfhnbdlkiemaeaaGreatFactsmw
set_option linter.unusedVariables false
set_option linter.unusedSimpArgs false
set_option maxRecDepth 100000
set_option maxHeartbeats 4000000
namespace Go.Proofs.YtfhnbdlkiemaeaaGreat
open Go Go.Sx
attribute [local simp] Go.Sx.vcsE1 Go.Sx.vcsE2 Go.Sx.vcsE3 Go.Sx.vcsE4 Go.Sx.vcsE5 Go.Sx.vcsE6 Go.Sx.vcsE7 Go.Sx.vcsE8 Go.Sx.vcsE9 Go.Sx.vcsE10 Go.Sx.vcsE11 Go.Sx.vcsE12 Go.Sx.vcsE13 Go.Sx.vcsE14 Go.Sx.vcsE15 Go.Sx.vcsE16 Go.Sx.vcsE17 Go.Sx.vcsE18 Go.Sx.vcsE19 Go.Sx.get Go.Sx.look Go.Sx.put Go.Sx.pureFn Go.Sx.findOrd Go.Sx.unF Go.Sx.dstOk Go.Sx.isFloatT Go.Sx.endVC Go.Sx.resFn Go.Sx.packC Go.Sx.newFn Go.Sx.storeFn Go.Sx.buildFn Go.Sx.known Go.Sx.aggT Go.Sx.cellsC Go.Sx.findCon Go.Sx.allV Go.Sx.partsV Go.Sx.partsC Go.Sx.fillL Go.Sx.exitTo Go.Sx.fAr Go.Sx.eqFn Go.Sx.eqFieldsFn Go.Sx.eqElemsFn Go.Sx.partFn Go.Sx.sliceFn Go.Sx.boundFn Go.Sx.AppV Go.Sx.CopyV Go.Sx.MakeSliceV Go.Sx.NewsV Go.Sx.GrowV Go.Sx.TextV Go.Sx.bytesL Go.Sx.notInt Go.Sx.typeAt Go.Sx.argAt Go.Sx.den Go.undef Go.Value.cells Go.Value.oneCell' Go.Sx.Con.pure Go.Sx.Con.some Go.Sx.Con.read Go.Sx.Con.make Go.Sx.Con.ext Go.Sx.Con.rel Go.Sx.Con.extS Go.Sx.Con.draw Go.Sx.Con.step Go.Sx.C.one Go.Sx.Draws.steps

theorem fmt64 : FloatKind.f64.format = dbl := rfl

theorem sameFloatC_c (a b : Nat) (hpre : sameF a b ∧ a < 18446744073709551616) (w : World) : Calls Tryz.prog 138 #[.float .f64 a, .float .f64 b] w fun e w' => e = .returned (.bool true) ∧ RowKit.Below w.heap.size w w' := by
  refine (plain_of_vcs ⟨[], []⟩ hmx Tryz.func138 rfl (by kernel_rfl) (args := [.float .f64 a, .float .f64 b]) (by simp [Tryz.ntmps138]) w (· = .bool true) 400 ?_).mono fun e w' ⟨v, h1, h2, h3⟩ => ⟨h2 ▸ h1, h3⟩
  obtain ⟨h, hb⟩ := hpre
  rcases h with ⟨rfl, hn⟩ | ⟨ha, hb'⟩
  · have e := ord_self a
    rw [hn] at e
    by_cases hz : dbl.order a 0 = some .eq
    · obtain rfl | rfl := (ord_zero hb).1 hz
      · simp (maxSteps := 4000000) -dsimp [-List.all_eq_true, -Array.all_eq_true, -Bool.exists_bool, -Bool.forall_bool, and_assoc, List.zipIdx, Tryz.f138, fmt64, e, hz, fRes, div_one_pos, ord_inf_pos]
      · simp (maxSteps := 4000000) -dsimp [-List.all_eq_true, -Array.all_eq_true, -Bool.exists_bool, -Bool.forall_bool, and_assoc, List.zipIdx, Tryz.f138, fmt64, e, hz, fRes, div_one_neg, ord_inf_neg]
    · simp (maxSteps := 4000000) -dsimp [-List.all_eq_true, -Array.all_eq_true, -Bool.exists_bool, -Bool.forall_bool, and_assoc, List.zipIdx, Tryz.f138, fmt64, e, hz]
  · have e1 := ord_self a
    have e2 := ord_self b
    rw [ha] at e1
    rw [hb'] at e2
    simp (maxSteps := 4000000) -dsimp [-List.all_eq_true, -Array.all_eq_true, -Bool.exists_bool, -Bool.forall_bool, and_assoc, List.zipIdx, Tryz.f138, fmt64, e1, e2]
def sameFloatC : Con Tryz.prog := Con.pure 138 Tryz.call138 (fun (i : ((Nat) × (Nat))) => match i with | (a, b) => [.float .f64 a, .float .f64 b]) (fun (i : ((Nat) × (Nat))) => match i with | (a, b) => sameF a b ∧ a < 18446744073709551616) (fun (i : ((Nat) × (Nat))) => match i with | (a, b) => .bool true) fun i w hp => sameFloatC_c i.1 i.2 hp w
theorem eqTimerC_c (b : Bool) (n : Int) (w : World) : Calls Tryz.prog 136 #[.agg #[.bool b, .int .u16 n], .agg #[.bool b, .int .u16 n]] w fun e w' => e = .returned (.bool true) ∧ RowKit.Below w.heap.size w w' := by
  refine (plain_of_vcs ⟨[], []⟩ hmx Tryz.func136 rfl (by kernel_rfl) (args := [.agg #[.bool b, .int .u16 n], .agg #[.bool b, .int .u16 n]]) (by simp [Tryz.ntmps136]) w (· = .bool true) 400 ?_).mono fun e w' ⟨v, h1, h2, h3⟩ => ⟨h2 ▸ h1, h3⟩
  simp (maxSteps := 4000000) -dsimp [-List.all_eq_true, -Array.all_eq_true, -Bool.exists_bool, -Bool.forall_bool, and_assoc, List.zipIdx, Tryz.f136]
def eqTimerC : Con Tryz.prog := Con.pure 136 Tryz.call136 (fun (i : ((Bool) × (Int))) => match i with | (b, n) => [.agg #[.bool b, .int .u16 n], .agg #[.bool b, .int .u16 n]]) (fun (i : ((Bool) × (Int))) => match i with | (b, n) => True) (fun (i : ((Bool) × (Int))) => match i with | (b, n) => .bool true) fun i w _ => eqTimerC_c i.1 i.2 w
theorem eqCounterC_c (b c : Bool) (n : Int) (w : World) : Calls Tryz.prog 137 #[.agg #[.bool b, .bool c, .int .u16 n], .agg #[.bool b, .bool c, .int .u16 n]] w fun e w' => e = .returned (.bool true) ∧ RowKit.Below w.heap.size w w' := by
  refine (plain_of_vcs ⟨[], []⟩ hmx Tryz.func137 rfl (by kernel_rfl) (args := [.agg #[.bool b, .bool c, .int .u16 n], .agg #[.bool b, .bool c, .int .u16 n]]) (by simp [Tryz.ntmps137]) w (· = .bool true) 400 ?_).mono fun e w' ⟨v, h1, h2, h3⟩ => ⟨h2 ▸ h1, h3⟩
  simp (maxSteps := 4000000) -dsimp [-List.all_eq_true, -Array.all_eq_true, -Bool.exists_bool, -Bool.forall_bool, and_assoc, List.zipIdx, Tryz.f137]
def eqCounterC : Con Tryz.prog := Con.pure 137 Tryz.call137 (fun (i : ((Bool) × (Bool) × (Int))) => match i with | (b, c, n) => [.agg #[.bool b, .bool c, .int .u16 n], .agg #[.bool b, .bool c, .int .u16 n]]) (fun (i : ((Bool) × (Bool) × (Int))) => match i with | (b, c, n) => True) (fun (i : ((Bool) × (Bool) × (Int))) => match i with | (b, c, n) => .bool true) fun i w _ => eqCounterC_c i.1 i.2.1 i.2.2 w
theorem eqTimersC_c (f : Arr 16 (Bool × Int)) (w : World) : Calls Tryz.prog 68 #[.agg (tL f).toArray, .agg (tL f).toArray] w fun e w' => e = .returned (.bool true) ∧ RowKit.Below w.heap.size w w' := by
  refine (plain_of_vcs ⟨[eqTimerC], []⟩ hmx Tryz.func68 rfl (by kernel_rfl) (args := [.agg (tL f).toArray, .agg (tL f).toArray]) (by simp [Tryz.ntmps68]) w (· = .bool true) 1000 ?_).mono fun e w' ⟨v, h1, h2, h3⟩ => ⟨h2 ▸ h1, h3⟩
  rw [tL_lit]
  simp (maxSteps := 4000000) -dsimp [-List.all_eq_true, -Array.all_eq_true, -Bool.exists_bool, -Bool.forall_bool, and_assoc, List.zipIdx, Tryz.f68, eqTimerC]
  intro _ _
  iterate 17
    refine loop_unroll (σ := ⟨[eqTimerC], []⟩) (n := 1000) hmx (by kernel_rfl) ?_
    simp (maxSteps := 4000000) -dsimp [-List.all_eq_true, -Array.all_eq_true, -Bool.exists_bool, -Bool.forall_bool, and_assoc, List.zipIdx, Tryz.f68, eqTimerC, IntKind.wrap, IntKind.signed, IntKind.bits]
def eqTimersC : Con Tryz.prog := Con.pure 68 Tryz.call68 (fun (f : ((Arr 16 (Bool × Int)))) => [.agg (tL f).toArray, .agg (tL f).toArray]) (fun (f : ((Arr 16 (Bool × Int)))) => True) (fun (f : ((Arr 16 (Bool × Int)))) => .bool true) fun f w _ => eqTimersC_c f w
theorem eqCountersC_c (f : Arr 16 (Bool × Bool × Int)) (w : World) : Calls Tryz.prog 69 #[.agg (cL f).toArray, .agg (cL f).toArray] w fun e w' => e = .returned (.bool true) ∧ RowKit.Below w.heap.size w w' := by
  refine (plain_of_vcs ⟨[eqCounterC], []⟩ hmx Tryz.func69 rfl (by kernel_rfl) (args := [.agg (cL f).toArray, .agg (cL f).toArray]) (by simp [Tryz.ntmps69]) w (· = .bool true) 1000 ?_).mono fun e w' ⟨v, h1, h2, h3⟩ => ⟨h2 ▸ h1, h3⟩
  rw [cL_lit]
  simp (maxSteps := 4000000) -dsimp [-List.all_eq_true, -Array.all_eq_true, -Bool.exists_bool, -Bool.forall_bool, and_assoc, List.zipIdx, Tryz.f69, eqCounterC]
  intro _ _
  iterate 17
    refine loop_unroll (σ := ⟨[eqCounterC], []⟩) (n := 1000) hmx (by kernel_rfl) ?_
    simp (maxSteps := 4000000) -dsimp [-List.all_eq_true, -Array.all_eq_true, -Bool.exists_bool, -Bool.forall_bool, and_assoc, List.zipIdx, Tryz.f69, eqCounterC, IntKind.wrap, IntKind.signed, IntKind.bits]
def eqCountersC : Con Tryz.prog := Con.pure 69 Tryz.call69 (fun (f : ((Arr 16 (Bool × Bool × Int)))) => [.agg (cL f).toArray, .agg (cL f).toArray]) (fun (f : ((Arr 16 (Bool × Bool × Int)))) => True) (fun (f : ((Arr 16 (Bool × Bool × Int)))) => .bool true) fun f w _ => eqCountersC_c f w
theorem eqIntsC_c (f : Arr 32 Int) (w : World) : Calls Tryz.prog 70 #[.agg (dL f).toArray, .agg (dL f).toArray] w fun e w' => e = .returned (.bool true) ∧ RowKit.Below w.heap.size w w' := by
  refine (plain_of_vcs ⟨[], []⟩ hmx Tryz.func70 rfl (by kernel_rfl) (args := [.agg (dL f).toArray, .agg (dL f).toArray]) (by simp [Tryz.ntmps70]) w (· = .bool true) 1000 ?_).mono fun e w' ⟨v, h1, h2, h3⟩ => ⟨h2 ▸ h1, h3⟩
  rw [dL_lit]
  simp (maxSteps := 4000000) -dsimp [-List.all_eq_true, -Array.all_eq_true, -Bool.exists_bool, -Bool.forall_bool, and_assoc, List.zipIdx, Tryz.f70]
  intro _ _
  iterate 33
    refine loop_unroll (σ := ⟨[], []⟩) (n := 1000) hmx (by kernel_rfl) ?_
    simp (maxSteps := 4000000) -dsimp [-List.all_eq_true, -Array.all_eq_true, -Bool.exists_bool, -Bool.forall_bool, and_assoc, List.zipIdx, Tryz.f70, IntKind.wrap, IntKind.signed, IntKind.bits]
def eqIntsC : Con Tryz.prog := Con.pure 70 Tryz.call70 (fun (f : ((Arr 32 Int))) => [.agg (dL f).toArray, .agg (dL f).toArray]) (fun (f : ((Arr 32 Int))) => True) (fun (f : ((Arr 32 Int))) => .bool true) fun f w _ => eqIntsC_c f w
theorem eqRealsC_c (f : Arr 16 Nat) (g : Arr 16 Nat) (hpre : (∀ k, k < 16 → sameF (f k) (g k)) ∧ (∀ k, k < 16 → f k < 18446744073709551616)) (w : World) : Calls Tryz.prog 71 #[.agg (rL f).toArray, .agg (rL g).toArray] w fun e w' => e = .returned (.bool true) ∧ RowKit.Below w.heap.size w w' := by
  refine (plain_of_vcs ⟨[sameFloatC], []⟩ hmx Tryz.func71 rfl (by kernel_rfl) (args := [.agg (rL f).toArray, .agg (rL g).toArray]) (by simp [Tryz.ntmps71]) w (· = .bool true) 1000 ?_).mono fun e w' ⟨v, h1, h2, h3⟩ => ⟨h2 ▸ h1, h3⟩
  obtain ⟨h1, h2⟩ := hpre
  rw [rL_lit, rL_lit]
  simp (maxSteps := 4000000) -dsimp [-List.all_eq_true, -Array.all_eq_true, -Bool.exists_bool, -Bool.forall_bool, and_assoc, List.zipIdx, Tryz.f71, sameFloatC]
  intro _ _
  iterate 17
    refine loop_unroll (σ := ⟨[sameFloatC], []⟩) (n := 1000) hmx (by kernel_rfl) ?_
    simp (maxSteps := 4000000) -dsimp [-List.all_eq_true, -Array.all_eq_true, -Bool.exists_bool, -Bool.forall_bool, and_assoc, List.zipIdx, Tryz.f71, sameFloatC, IntKind.wrap, IntKind.signed, IntKind.bits, h1, h2]
def eqRealsC : Con Tryz.prog := Con.pure 71 Tryz.call71 (fun (i : ((Arr 16 Nat) × (Arr 16 Nat))) => match i with | (f, g) => [.agg (rL f).toArray, .agg (rL g).toArray]) (fun (i : ((Arr 16 Nat) × (Arr 16 Nat))) => match i with | (f, g) => (∀ k, k < 16 → sameF (f k) (g k)) ∧ (∀ k, k < 16 → f k < 18446744073709551616)) (fun (i : ((Arr 16 Nat) × (Arr 16 Nat))) => match i with | (f, g) => .bool true) fun i w hp => eqRealsC_c i.1 i.2 hp w
theorem eqMemC_c (a b : M) (hpre : MSame a b ∧ MOk a) (w : World) : Calls Tryz.prog 25 #[.agg (cells a), .agg (cells b)] w fun e w' => e = .returned (.bool true) ∧ RowKit.Below w.heap.size w w' := by
  refine (plain_of_vcs ⟨[eqTimersC, eqCountersC, eqIntsC, eqRealsC], []⟩ hmx Tryz.func25 rfl (by kernel_rfl) (args := [.agg (cells a), .agg (cells b)]) (by simp [Tryz.ntmps25]) w (· = .bool true) 1000 ?_).mono fun e w' ⟨v, h1, h2, h3⟩ => ⟨h2 ▸ h1, h3⟩
  obtain ⟨h, ho⟩ := hpre
  have hR := ho.R
  simp (maxSteps := 4000000) -dsimp [-List.all_eq_true, -Array.all_eq_true, -Bool.exists_bool, -Bool.forall_bool, and_assoc, List.zipIdx, Tryz.f25, eqTimersC, eqCountersC, eqIntsC, eqRealsC, h.X, h.Y, h.Mw, h.S, h.E, h.T, h.C, h.D, h.Time, h.Ran, h.Fault]
  exact ⟨h.R, hR⟩
def eqMemC : Con Tryz.prog := Con.pure 25 Tryz.call25 (fun (i : ((M) × (M))) => match i with | (a, b) => [.agg (cells a), .agg (cells b)]) (fun (i : ((M) × (M))) => match i with | (a, b) => MSame a b ∧ MOk a) (fun (i : ((M) × (M))) => match i with | (a, b) => .bool true) fun i w hp => eqMemC_c i.1 i.2 hp w
end Go.Proofs.YtfhnbdlkiemaeaaGreat
