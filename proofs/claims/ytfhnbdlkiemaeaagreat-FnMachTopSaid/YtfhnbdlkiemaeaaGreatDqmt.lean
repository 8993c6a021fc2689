/-
  Contracts: what coils do, by the program.
-/
import Derived.Test.YtfhnbdlkiemaeaaGreatDpmt
set_option linter.unusedVariables false
set_option linter.unusedSimpArgs false
set_option maxRecDepth 100000
set_option maxHeartbeats 4000000
namespace Go.Proofs.YtfhnbdlkiemaeaaGreat
open Go Go.Sx
attribute [local simp] Sx.vcsE1 Sx.vcsE2 Sx.vcsE3 Sx.vcsE4 Sx.vcsE5 Sx.vcsE6 Sx.vcsE7 Sx.vcsE8 Sx.vcsE9 Sx.vcsE10 Sx.vcsE11 Sx.vcsE12 Sx.vcsE13 Sx.vcsE14 Sx.vcsE15 Sx.vcsE16 Sx.vcsE17 Sx.vcsE18 Sx.vcsE19 Sx.get Sx.look Sx.put Sx.pureFn Sx.findOrd Sx.unF Sx.dstOk Sx.isFloatT Sx.endVC Sx.resFn Sx.packC Sx.newFn Sx.storeFn Sx.buildFn Sx.known Sx.aggT Sx.cellsC Sx.findCon Sx.allV Sx.partsV Sx.partsC Sx.fillL Sx.exitTo Sx.fAr Sx.eqFn Sx.eqFieldsFn Sx.eqElemsFn Sx.partFn Sx.sliceFn Sx.boundFn Sx.AppV Sx.CopyV Sx.MakeSliceV Sx.NewsV Sx.GrowV Sx.TextV Sx.bytesL Sx.notInt Sx.typeAt Sx.argAt Sx.den Go.undef Go.Value.cells Go.Value.oneCell' Sx.Con.pure Sx.Con.some Sx.Con.read Sx.Con.make Sx.Con.ext Sx.Con.rel Sx.Con.extS Sx.Con.draw Sx.Con.step Sx.C.one Sx.Draws.steps



theorem realCalcC_c (op : Int) (a b : Nat) (w : World) : Calls Tryz.prog 178 #[.int .i64 op, .float .f64 a, .float .f64 b] w fun e w' => ∃ v, e = .returned v ∧ (fun v => ∃ r, v = .float .f64 r ∧ sameF r (realCalcF op a b) ∧ r < 18446744073709551616) v ∧ RowKit.Below w.heap.size w w' := by
  refine plain_of_vcs ⟨[nanC], []⟩ hmx Tryz.func178 rfl (by kernel_rfl) (args := [.int .i64 op, .float .f64 a, .float .f64 b]) (by simp [Tryz.ntmps178]) w (fun v => ∃ r, v = .float .f64 r ∧ sameF r (realCalcF op a b) ∧ r < 18446744073709551616) 400 ?_
  by_cases h1 : op = 1
  · subst h1
    simp (maxSteps := 4000000) -dsimp [-List.all_eq_true, -Array.all_eq_true, -Bool.exists_bool, -Bool.forall_bool, and_assoc, List.zipIdx, Tryz.f178, nanC, realCalcF, fmt64x]
    exact fun r hr => ⟨fRes_F hr, arith_lt.1 hr⟩
  by_cases h2 : op = 2
  · subst h2
    simp (maxSteps := 4000000) -dsimp [-List.all_eq_true, -Array.all_eq_true, -Bool.exists_bool, -Bool.forall_bool, and_assoc, List.zipIdx, Tryz.f178, nanC, realCalcF, fmt64x]
    exact fun r hr => ⟨fRes_F hr, arith_lt.2.1 hr⟩
  by_cases h3 : op = 3
  · subst h3
    simp (maxSteps := 4000000) -dsimp [-List.all_eq_true, -Array.all_eq_true, -Bool.exists_bool, -Bool.forall_bool, and_assoc, List.zipIdx, Tryz.f178, nanC, realCalcF, fmt64x]
    exact fun r hr => ⟨fRes_F hr, arith_lt.2.2.1 hr⟩
  by_cases h4 : op = 4
  · subst h4
    simp (maxSteps := 4000000) -dsimp [-List.all_eq_true, -Array.all_eq_true, -Bool.exists_bool, -Bool.forall_bool, and_assoc, List.zipIdx, Tryz.f178, nanC, realCalcF, fmt64x]
    exact fun r hr => ⟨fRes_F hr, arith_lt.2.2.2 hr⟩
  · simp (maxSteps := 4000000) -dsimp [-List.all_eq_true, -Array.all_eq_true, -Bool.exists_bool, -Bool.forall_bool, and_assoc, List.zipIdx, Tryz.f178, nanC, realCalcF, h1, h2, h3, h4]
    exact sameF_refl _
def realCalcC : Con Tryz.prog := Con.some 178 Tryz.call178 (fun (i : ((Int) × (Nat) × (Nat))) => match i with | (op, a, b) => [.int .i64 op, .float .f64 a, .float .f64 b]) (fun (i : ((Int) × (Nat) × (Nat))) => match i with | (op, a, b) => True) (fun (i : ((Int) × (Nat) × (Nat))) => match i with | (op, a, b) => fun v => ∃ r, v = .float .f64 r ∧ sameF r (realCalcF op a b) ∧ r < 18446744073709551616) fun i w _ => realCalcC_c i.1 i.2.1 i.2.2 w
theorem wholeCalcC_c (op a b : Int) (w : World) : Calls Tryz.prog 179 #[.int .i64 op, .int .i16 a, .int .i16 b] w fun e w' => e = .returned (.tuple #[.int .i16 (wholeCalc op a b).1, .bool (wholeCalc op a b).2]) ∧ RowKit.Below w.heap.size w w' := by
  refine (plain_of_vcs ⟨[], []⟩ hmx Tryz.func179 rfl (by kernel_rfl) (args := [.int .i64 op, .int .i16 a, .int .i16 b]) (by simp [Tryz.ntmps179]) w (· = .tuple #[.int .i16 (wholeCalc op a b).1, .bool (wholeCalc op a b).2]) 400 ?_).mono fun e w' ⟨v, h1, h2, h3⟩ => ⟨h2 ▸ h1, h3⟩
  by_cases h1 : op = 1
  · subst h1
    simp (maxSteps := 4000000) -dsimp [-List.all_eq_true, -Array.all_eq_true, -Bool.exists_bool, -Bool.forall_bool, and_assoc, List.zipIdx, Tryz.f179, wholeCalc]
  by_cases h2 : op = 2
  · subst h2
    simp (maxSteps := 4000000) -dsimp [-List.all_eq_true, -Array.all_eq_true, -Bool.exists_bool, -Bool.forall_bool, and_assoc, List.zipIdx, Tryz.f179, wholeCalc]
  by_cases h3 : op = 3
  · subst h3
    simp (maxSteps := 4000000) -dsimp [-List.all_eq_true, -Array.all_eq_true, -Bool.exists_bool, -Bool.forall_bool, and_assoc, List.zipIdx, Tryz.f179, wholeCalc]
  by_cases hb : b = 0
  · simp (maxSteps := 4000000) -dsimp [-List.all_eq_true, -Array.all_eq_true, -Bool.exists_bool, -Bool.forall_bool, and_assoc, List.zipIdx, Tryz.f179, wholeCalc, h1, h2, h3, hb]
  by_cases h4 : op = 4
  · subst h4
    simp (maxSteps := 4000000) -dsimp [-List.all_eq_true, -Array.all_eq_true, -Bool.exists_bool, -Bool.forall_bool, and_assoc, List.zipIdx, Tryz.f179, wholeCalc, hb]
  by_cases h5 : op = 5
  · subst h5
    simp (maxSteps := 4000000) -dsimp [-List.all_eq_true, -Array.all_eq_true, -Bool.exists_bool, -Bool.forall_bool, and_assoc, List.zipIdx, Tryz.f179, wholeCalc, hb]
  · simp (maxSteps := 4000000) -dsimp [-List.all_eq_true, -Array.all_eq_true, -Bool.exists_bool, -Bool.forall_bool, and_assoc, List.zipIdx, Tryz.f179, wholeCalc, h1, h2, h3, hb, h4, h5]
def wholeCalcC : Con Tryz.prog := Con.pure 179 Tryz.call179 (fun (i : ((Int) × (Int) × (Int))) => match i with | (op, a, b) => [.int .i64 op, .int .i16 a, .int .i16 b]) (fun (i : ((Int) × (Int) × (Int))) => match i with | (op, a, b) => True) (fun (i : ((Int) × (Int) × (Int))) => match i with | (op, a, b) => .tuple #[.int .i16 (wholeCalc op a b).1, .bool (wholeCalc op a b).2]) fun i w _ => wholeCalcC_c i.1 i.2.1 i.2.2 w
structure IsMem (v : Value) (d : M) : Prop where
  ex : ∃ m, v = .agg (cells m) ∧ MSame m d ∧ MOk m
theorem isMem_self {d : M} (h : MOk d) : IsMem (.agg (cells d)) d := ⟨d, rfl, MSame_refl d, h⟩
theorem calculateC_c (m : M) (op k n p k1 n1 p1 k2 n2 p2 : Int) (hpre : MOk m) (w : World) : Calls Tryz.prog 130 #[.agg (cells m), .int .i64 op, .agg #[.int .i64 k, .int .i64 n, .int .i64 p], .agg #[.int .i64 k1, .int .i64 n1, .int .i64 p1], .agg #[.int .i64 k2, .int .i64 n2, .int .i64 p2]] w fun e w' => ∃ v, e = .returned v ∧ (fun v => IsMem v (calcM m op ⟨k, n, p⟩ ⟨k1, n1, p1⟩ ⟨k2, n2, p2⟩)) v ∧ RowKit.Below w.heap.size w w' := by
  refine plain_of_vcs ⟨[memRealC, realCalcC, memPutRealC, memWholeC, wholeCalcC, memPutWholeC], [(2, [(0, false), (1, false), (2, false), (3, false), (4, false), (5, false), (6, false), (7, false), (8, false), (9, false), (0, true), (1, true), (10, false), (11, false)])]⟩ hmx Tryz.func130 rfl (by kernel_rfl) (args := [.agg (cells m), .int .i64 op, .agg #[.int .i64 k, .int .i64 n, .int .i64 p], .agg #[.int .i64 k1, .int .i64 n1, .int .i64 p1], .agg #[.int .i64 k2, .int .i64 n2, .int .i64 p2]]) (by simp [Tryz.ntmps130]) w (fun v => IsMem v (calcM m op ⟨k, n, p⟩ ⟨k1, n1, p1⟩ ⟨k2, n2, p2⟩)) 400 ?_
  by_cases hk : k = 10
  · subst hk
    simp (maxSteps := 4000000) -dsimp [-List.all_eq_true, -Array.all_eq_true, -Bool.exists_bool, -Bool.forall_bool, and_assoc, List.zipIdx, Tryz.f130, memRealC, realCalcC, memPutRealC, memWholeC, wholeCalcC, memPutWholeC, calcM]
    intro v r hv hs hl
    exact ⟨r, hv, _, rfl, putReal_same hs, MOk_putReal hpre hl⟩
  · have bd := fun op => wholeCalc_bd (op := op) (b := memWhole m k2 n2) (memWhole_bd (k := k1) (n := n1) hpre)
    cases hw : (wholeCalc op (memWhole m k1 n1) (memWhole m k2 n2)).2
    · simp (maxSteps := 4000000) -dsimp [-List.all_eq_true, -Array.all_eq_true, -Bool.exists_bool, -Bool.forall_bool, and_assoc, List.zipIdx, Tryz.f130, memRealC, realCalcC, memPutRealC, memWholeC, wholeCalcC, memPutWholeC, calcM, hk, hw]
      exact ⟨hpre, isMem_self (fault_ok hpre)⟩
    · simp (maxSteps := 4000000) -dsimp [-List.all_eq_true, -Array.all_eq_true, -Bool.exists_bool, -Bool.forall_bool, and_assoc, List.zipIdx, Tryz.f130, memRealC, realCalcC, memPutRealC, memWholeC, wholeCalcC, memPutWholeC, calcM, hk, hw]
      exact ⟨hpre, isMem_self (MOk_putWhole hpre (i16_mm (bd op)))⟩
def calculateC : Con Tryz.prog := Con.some 130 Tryz.call130 (fun (i : ((M) × (Int) × (Int) × (Int) × (Int) × (Int) × (Int) × (Int) × (Int) × (Int) × (Int))) => match i with | (m, op, k, n, p, k1, n1, p1, k2, n2, p2) => [.agg (cells m), .int .i64 op, .agg #[.int .i64 k, .int .i64 n, .int .i64 p], .agg #[.int .i64 k1, .int .i64 n1, .int .i64 p1], .agg #[.int .i64 k2, .int .i64 n2, .int .i64 p2]]) (fun (i : ((M) × (Int) × (Int) × (Int) × (Int) × (Int) × (Int) × (Int) × (Int) × (Int) × (Int))) => match i with | (m, op, k, n, p, k1, n1, p1, k2, n2, p2) => MOk m) (fun (i : ((M) × (Int) × (Int) × (Int) × (Int) × (Int) × (Int) × (Int) × (Int) × (Int) × (Int))) => match i with | (m, op, k, n, p, k1, n1, p1, k2, n2, p2) => fun v => IsMem v (calcM m op ⟨k, n, p⟩ ⟨k1, n1, p1⟩ ⟨k2, n2, p2⟩)) fun i w hp => calculateC_c i.1 i.2.1 i.2.2.1 i.2.2.2.1 i.2.2.2.2.1 i.2.2.2.2.2.1 i.2.2.2.2.2.2.1 i.2.2.2.2.2.2.2.1 i.2.2.2.2.2.2.2.2.1 i.2.2.2.2.2.2.2.2.2.1 i.2.2.2.2.2.2.2.2.2.2 hp w
end Go.Proofs.YtfhnbdlkiemaeaaGreat
