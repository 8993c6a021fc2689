/-
  Contracts: which coils and instructions are ok, by the reference: the whole of them.
-/
import Derived.Test.YtclbanhoiaieaaaGreatDoorInva
import Derived.Test.YtclbanhoiaieaaaGreatDoorHva
import Derived.Test.YtclbanhoiaieaaaGreatDoorIva
set_option linter.unusedVariables false
set_option linter.unusedSimpArgs false
set_option maxRecDepth 100000
set_option maxHeartbeats 4000000
namespace Go.Proofs.YtclbanhoiaieaaaGreatDoor
open Go Go.Sx
open List renaming all_eq_true → Y1, zipIdx → Y5
open Bool renaming exists_bool → Y3, forall_bool → Y4
attribute [local simp] Sx.vcsE1 Sx.vcsE2 Sx.vcsE3 Sx.vcsE4 Sx.vcsE5 Sx.vcsE6 Sx.vcsE7 Sx.vcsE8 Sx.vcsE9 Sx.vcsE10 Sx.vcsE11 Sx.vcsE12 Sx.vcsE13 Sx.vcsE14 Sx.vcsE15 Sx.vcsE16 Sx.vcsE17 Sx.vcsE18 Sx.vcsE19 Sx.get Sx.look Sx.put Sx.pureFn Sx.findOrd Sx.unF Sx.dstOk Sx.isFloatT Sx.endVC Sx.resFn Sx.packC Sx.newFn Sx.storeFn Sx.buildFn Sx.known Sx.aggT Sx.cellsC Sx.findCon Sx.allV Sx.partsV Sx.partsC Sx.fillL Sx.exitTo Sx.fAr Sx.eqFn Sx.eqFieldsFn Sx.eqElemsFn Sx.partFn Sx.sliceFn Sx.boundFn Sx.AppV Sx.CopyV Sx.MakeSliceV Sx.NewsV Sx.GrowV Sx.TextV Sx.bytesL Sx.notInt Sx.typeAt Sx.argAt Sx.den Go.undef Go.Value.cells Go.Value.oneCell' Sx.Con.pure Sx.Con.some Sx.Con.read Sx.Con.make Sx.Con.ext Sx.Con.rel Sx.Con.extS Sx.Con.draw Sx.Con.step Sx.C.one Sx.Draws.steps

theorem ok_pos {k n p : Int} (h : devOk k n p = true) : 1 ≤ k ∧ k ≤ 13 := by
  rw [devOk_iff] at h; omega
theorem sIsBitC_c (k n p : Int) (w : World) : Calls Tryz.prog 165 #[.agg #[.int .i64 k, .int .i64 n, .int .i64 p]] w fun e w' => e = .returned (.bool (isBit ⟨k, n, p⟩)) ∧ RowKit.Below w.heap.size w w' := by
  refine (plain_of_vcs ⟨[sDevOkC], []⟩ hmx Tryz.func165 rfl (by kernel_rfl) (args := [.agg #[.int .i64 k, .int .i64 n, .int .i64 p]]) (by simp [Tryz.ntmps165]) w (· = .bool (isBit ⟨k, n, p⟩)) 400 ?_).mono fun e w' ⟨v, h1, h2, h3⟩ => ⟨h2 ▸ h1, h3⟩
  have hp := ok_pos (k := k) (n := n) (p := p)
  cases hd : devOk k n p
  · simp (maxSteps := 4000000) -dsimp [-Y1, -Array.all_eq_true, -Y3, -Y4, and_assoc, Y5, Tryz.f165, sDevOkC, isBit, dOk, hd]
  · obtain rfl | rfl | rfl | rfl | rfl | rfl | rfl | rfl | rfl | rfl | rfl | rfl | rfl : k = 1 ∨ k = 2 ∨ k = 3 ∨ k = 4 ∨ k = 5 ∨ k = 6 ∨ k = 7 ∨ k = 8 ∨ k = 9 ∨ k = 10 ∨ k = 11 ∨ k = 12 ∨ k = 13 := by have := ok_pos hd; omega
    all_goals simp (maxSteps := 4000000) -dsimp [-Y1, -Array.all_eq_true, -Y3, -Y4, and_assoc, Y5, Tryz.f165, sDevOkC, isBit, dOk, hd]
def sIsBitC : Con Tryz.prog := Con.pure 165 Tryz.call165 (fun (i : ((Int) × (Int) × (Int))) => match i with | (k, n, p) => [.agg #[.int .i64 k, .int .i64 n, .int .i64 p]]) (fun (i : ((Int) × (Int) × (Int))) => match i with | (k, n, p) => True) (fun (i : ((Int) × (Int) × (Int))) => match i with | (k, n, p) => .bool (isBit ⟨k, n, p⟩)) fun i w _ => sIsBitC_c i.1 i.2.1 i.2.2 w
theorem sIsWhlC_c (k n p : Int) (w : World) : Calls Tryz.prog 167 #[.agg #[.int .i64 k, .int .i64 n, .int .i64 p]] w fun e w' => e = .returned (.bool (isWhl ⟨k, n, p⟩)) ∧ RowKit.Below w.heap.size w w' := by
  refine (plain_of_vcs ⟨[sDevOkC], []⟩ hmx Tryz.func167 rfl (by kernel_rfl) (args := [.agg #[.int .i64 k, .int .i64 n, .int .i64 p]]) (by simp [Tryz.ntmps167]) w (· = .bool (isWhl ⟨k, n, p⟩)) 400 ?_).mono fun e w' ⟨v, h1, h2, h3⟩ => ⟨h2 ▸ h1, h3⟩
  cases hd : devOk k n p
  · simp (maxSteps := 4000000) -dsimp [-Y1, -Array.all_eq_true, -Y3, -Y4, and_assoc, Y5, Tryz.f167, sDevOkC, isWhl, dOk, hd]
  · obtain rfl | rfl | rfl | rfl | rfl | rfl | rfl | rfl | rfl | rfl | rfl | rfl | rfl : k = 1 ∨ k = 2 ∨ k = 3 ∨ k = 4 ∨ k = 5 ∨ k = 6 ∨ k = 7 ∨ k = 8 ∨ k = 9 ∨ k = 10 ∨ k = 11 ∨ k = 12 ∨ k = 13 := by have := ok_pos hd; omega
    all_goals simp (maxSteps := 4000000) -dsimp [-Y1, -Array.all_eq_true, -Y3, -Y4, and_assoc, Y5, Tryz.f167, sDevOkC, isWhl, dOk, hd]
def sIsWhlC : Con Tryz.prog := Con.pure 167 Tryz.call167 (fun (i : ((Int) × (Int) × (Int))) => match i with | (k, n, p) => [.agg #[.int .i64 k, .int .i64 n, .int .i64 p]]) (fun (i : ((Int) × (Int) × (Int))) => match i with | (k, n, p) => True) (fun (i : ((Int) × (Int) × (Int))) => match i with | (k, n, p) => .bool (isWhl ⟨k, n, p⟩)) fun i w _ => sIsWhlC_c i.1 i.2.1 i.2.2 w
theorem sIsRlC_c (k n p : Int) (w : World) : Calls Tryz.prog 168 #[.agg #[.int .i64 k, .int .i64 n, .int .i64 p]] w fun e w' => e = .returned (.bool (isRl ⟨k, n, p⟩)) ∧ RowKit.Below w.heap.size w w' := by
  refine (plain_of_vcs ⟨[sDevOkC], []⟩ hmx Tryz.func168 rfl (by kernel_rfl) (args := [.agg #[.int .i64 k, .int .i64 n, .int .i64 p]]) (by simp [Tryz.ntmps168]) w (· = .bool (isRl ⟨k, n, p⟩)) 400 ?_).mono fun e w' ⟨v, h1, h2, h3⟩ => ⟨h2 ▸ h1, h3⟩
  cases hd : devOk k n p
  · simp (maxSteps := 4000000) -dsimp [-Y1, -Array.all_eq_true, -Y3, -Y4, and_assoc, Y5, Tryz.f168, sDevOkC, isRl, dOk, hd]
  · obtain rfl | rfl | rfl | rfl | rfl | rfl | rfl | rfl | rfl | rfl | rfl | rfl | rfl : k = 1 ∨ k = 2 ∨ k = 3 ∨ k = 4 ∨ k = 5 ∨ k = 6 ∨ k = 7 ∨ k = 8 ∨ k = 9 ∨ k = 10 ∨ k = 11 ∨ k = 12 ∨ k = 13 := by have := ok_pos hd; omega
    all_goals simp (maxSteps := 4000000) -dsimp [-Y1, -Array.all_eq_true, -Y3, -Y4, and_assoc, Y5, Tryz.f168, sDevOkC, isRl, dOk, hd]
def sIsRlC : Con Tryz.prog := Con.pure 168 Tryz.call168 (fun (i : ((Int) × (Int) × (Int))) => match i with | (k, n, p) => [.agg #[.int .i64 k, .int .i64 n, .int .i64 p]]) (fun (i : ((Int) × (Int) × (Int))) => match i with | (k, n, p) => True) (fun (i : ((Int) × (Int) × (Int))) => match i with | (k, n, p) => .bool (isRl ⟨k, n, p⟩)) fun i w _ => sIsRlC_c i.1 i.2.1 i.2.2 w
theorem sArityC_c (op : Int) (w : World) : Calls Tryz.prog 164 #[.int .i64 op] w fun e w' => e = .returned (.int .i64 (arity op)) ∧ RowKit.Below w.heap.size w w' := by
  refine (plain_of_vcs ⟨[], []⟩ hmx Tryz.func164 rfl (by kernel_rfl) (args := [.int .i64 op]) (by simp [Tryz.ntmps164]) w (· = .int .i64 (arity op)) 400 ?_).mono fun e w' ⟨v, h1, h2, h3⟩ => ⟨h2 ▸ h1, h3⟩
  by_cases h : (1 ≤ op ∧ op ≤ 10) ∨ (21 ≤ op ∧ op ≤ 37)
  · obtain rfl | rfl | rfl | rfl | rfl | rfl | rfl | rfl | rfl | rfl | rfl | rfl | rfl | rfl | rfl | rfl | rfl | rfl | rfl | rfl | rfl | rfl | rfl | rfl | rfl | rfl | rfl : op = 1 ∨ op = 2 ∨ op = 3 ∨ op = 4 ∨ op = 5 ∨ op = 6 ∨ op = 7 ∨ op = 8 ∨ op = 9 ∨ op = 10 ∨ op = 21 ∨ op = 22 ∨ op = 23 ∨ op = 24 ∨ op = 25 ∨ op = 26 ∨ op = 27 ∨ op = 28 ∨ op = 29 ∨ op = 30 ∨ op = 31 ∨ op = 32 ∨ op = 33 ∨ op = 34 ∨ op = 35 ∨ op = 36 ∨ op = 37 := by omega
    all_goals simp (maxSteps := 4000000) -dsimp [-Y1, -Array.all_eq_true, -Y3, -Y4, and_assoc, Y5, Tryz.f164, arity]
  · have e : arity op = 0 := by unfold arity; rw [if_neg (by omega), if_neg (by omega), if_neg (by omega)]
    have n : op ≠ 1 ∧ op ≠ 2 ∧ op ≠ 21 ∧ op ≠ 22 ∧ op ≠ 23 ∧ op ≠ 25 ∧ op ≠ 31 ∧ op ≠ 32 ∧ op ≠ 33 ∧ op ≠ 34 ∧ op ≠ 35 := by omega
    simp (maxSteps := 4000000) -dsimp [-Y1, -Array.all_eq_true, -Y3, -Y4, and_assoc, Y5, Tryz.f164, e, n]
    try omega
def sArityC : Con Tryz.prog := Con.pure 164 Tryz.call164 (fun (op : ((Int))) => [.int .i64 op]) (fun (op : ((Int))) => True) (fun (op : ((Int))) => .int .i64 (arity op)) fun op w _ => sArityC_c op w
theorem l4KindC_c (k n p c d : Int) (w : World) : Calls Tryz.prog 169 #[.agg #[.int .i64 k, .int .i64 n, .int .i64 p], .int .i64 c, .int .i64 d] w fun e w' => e = .returned (.bool (devOk k n p && decide (k = c ∨ k = d))) ∧ RowKit.Below w.heap.size w w' := by
  refine (plain_of_vcs ⟨[sDevOkC], []⟩ hmx Tryz.func169 rfl (by kernel_rfl) (args := [.agg #[.int .i64 k, .int .i64 n, .int .i64 p], .int .i64 c, .int .i64 d]) (by simp [Tryz.ntmps169]) w (· = .bool (devOk k n p && decide (k = c ∨ k = d))) 400 ?_).mono fun e w' ⟨v, h1, h2, h3⟩ => ⟨h2 ▸ h1, h3⟩
  cases hd : devOk k n p
  · simp (maxSteps := 4000000) -dsimp [-Y1, -Array.all_eq_true, -Y3, -Y4, and_assoc, Y5, Tryz.f169, sDevOkC, hd]
  · by_cases h1 : k = c
    · subst h1; simp (maxSteps := 4000000) -dsimp [-Y1, -Array.all_eq_true, -Y3, -Y4, and_assoc, Y5, Tryz.f169, sDevOkC, hd]
    · by_cases h2 : k = d
      · subst h2; simp (maxSteps := 4000000) -dsimp [-Y1, -Array.all_eq_true, -Y3, -Y4, and_assoc, Y5, Tryz.f169, sDevOkC, hd, h1]
      · simp (maxSteps := 4000000) -dsimp [-Y1, -Array.all_eq_true, -Y3, -Y4, and_assoc, Y5, Tryz.f169, sDevOkC, hd, h1, h2]
def l4KindC : Con Tryz.prog := Con.pure 169 Tryz.call169 (fun (i : ((Int) × (Int) × (Int) × (Int) × (Int))) => match i with | (k, n, p, c, d) => [.agg #[.int .i64 k, .int .i64 n, .int .i64 p], .int .i64 c, .int .i64 d]) (fun (i : ((Int) × (Int) × (Int) × (Int) × (Int))) => match i with | (k, n, p, c, d) => True) (fun (i : ((Int) × (Int) × (Int) × (Int) × (Int))) => match i with | (k, n, p, c, d) => .bool (devOk k n p && decide (k = c ∨ k = d))) fun i w _ => l4KindC_c i.1 i.2.1 i.2.2.1 i.2.2.2.1 i.2.2.2.2 w

theorem isBit_ok {d : Dev} (h : isBit d = true) : dOk d = true := by unfold isBit at h; simp at h; exact h.2
theorem isWhl_ok {d : Dev} (h : isWhl d = true) : dOk d = true := by unfold isWhl at h; simp at h; exact h.2
theorem isRl_ok {d : Dev} (h : isRl d = true) : dOk d = true := by unfold isRl at h; simp at h; exact h.2
theorem sConC_c (op : Int) (o : Option Addr) (cap : Nat) (xs : List Dev) (w : World) (hpre : RdD (factF ⟨w, [], w, []⟩) o xs ∧ xs.length ≤ 1048576) : Calls Tryz.prog 91 #[.agg #[.int .i64 op, .slice o xs.length cap]] w fun e w' => e = .returned (.bool (conOk op xs)) ∧ RowKit.Below w.heap.size w w' := by
  refine (plain_of_vcs ⟨[sArityC, sIsBitC, sIsWhlC, sIsRlC, sDevOkC], []⟩ hmx Tryz.func91 rfl (by kernel_rfl) (args := [.agg #[.int .i64 op, .slice o xs.length cap]]) (by simp [Tryz.ntmps91]) w (· = .bool (conOk op xs)) 400 ?_).mono fun e w' ⟨v, h1, h2, h3⟩ => ⟨h2 ▸ h1, h3⟩
  obtain ⟨h, hl⟩ := hpre
  have e := conOk_eq op xs
  by_cases h1 : 1 ≤ op ∧ op ≤ 10
  · by_cases hq : (xs.length : Int) = arity op
    · simp only [h1, hq, decide_true, Bool.true_and, and_self] at e
      obtain rfl | rfl | rfl | rfl | h5 : op = 1 ∨ op = 2 ∨ op = 3 ∨ op = 4 ∨ 5 ≤ op := by omega
      · obtain ⟨⟨ak, an, ap⟩, rfl⟩ := list_one (by rw [hq]; rfl)
        have a0 := h.at0 (x := ⟨ak, an, ap⟩) rfl
        have i1 := @isBit_ok ⟨ak, an, ap⟩
        simp (maxSteps := 4000000) -dsimp [-Y1, -Array.all_eq_true, -Y3, -Y4, and_assoc, Y5, Tryz.f91, sArityC, sIsBitC, sIsWhlC, sIsRlC, sDevOkC, e, a0.there, a0.all, conB, xD, arity]
        simpa using i1
      · obtain ⟨⟨ak, an, ap⟩, rfl⟩ := list_one (by rw [hq]; rfl)
        have a0 := h.at0 (x := ⟨ak, an, ap⟩) rfl
        have i1 := @isBit_ok ⟨ak, an, ap⟩
        simp (maxSteps := 4000000) -dsimp [-Y1, -Array.all_eq_true, -Y3, -Y4, and_assoc, Y5, Tryz.f91, sArityC, sIsBitC, sIsWhlC, sIsRlC, sDevOkC, e, a0.there, a0.all, conB, xD, arity]
        simpa using i1
      · obtain ⟨⟨ak, an, ap⟩, ⟨bk, bn, bp⟩, rfl⟩ := list_two (by rw [hq]; rfl)
        have a0 := h.at0 (x := ⟨ak, an, ap⟩) rfl
        have a1 := h.at1 (x := ⟨bk, bn, bp⟩) rfl
        have i1 := @isBit_ok ⟨ak, an, ap⟩
        have d2 : dOk ⟨bk, bn, bp⟩ = devOk bk bn bp := rfl
        rw [e]
        simp (maxSteps := 4000000) -dsimp [-Y1, -Array.all_eq_true, -Y3, -Y4, and_assoc, Y5, Tryz.f91, sArityC, sIsBitC, sIsWhlC, sIsRlC, sDevOkC, a0.there, a0.all, a1.there, a1.all, a1.k, conB, xD, arity, d2]
        generalize isBit ⟨ak, an, ap⟩ = u at *
        generalize dOk ⟨ak, an, ap⟩ = u1 at *
        generalize devOk bk bn bp = u2 at *
        clear e
        cases u <;> cases u1 <;> cases u2 <;> simp_all
        exact Bool.eq_iff_iff.mpr (by simp)
      · obtain ⟨⟨ak, an, ap⟩, ⟨bk, bn, bp⟩, rfl⟩ := list_two (by rw [hq]; rfl)
        have a0 := h.at0 (x := ⟨ak, an, ap⟩) rfl
        have a1 := h.at1 (x := ⟨bk, bn, bp⟩) rfl
        have i1 := @isBit_ok ⟨ak, an, ap⟩
        have d2 : dOk ⟨bk, bn, bp⟩ = devOk bk bn bp := rfl
        rw [e]
        simp (maxSteps := 4000000) -dsimp [-Y1, -Array.all_eq_true, -Y3, -Y4, and_assoc, Y5, Tryz.f91, sArityC, sIsBitC, sIsWhlC, sIsRlC, sDevOkC, a0.there, a0.all, a1.there, a1.all, a1.k, conB, xD, arity, d2]
        generalize isBit ⟨ak, an, ap⟩ = u at *
        generalize dOk ⟨ak, an, ap⟩ = u1 at *
        generalize devOk bk bn bp = u2 at *
        clear e
        cases u <;> cases u1 <;> cases u2 <;> simp_all
        exact Bool.eq_iff_iff.mpr (by simp)
      · obtain ⟨⟨ak, an, ap⟩, ⟨bk, bn, bp⟩, rfl⟩ := list_two (by rw [hq]; unfold arity; rw [if_neg (by omega), if_neg (by omega), if_pos (by omega)])
        have a0 := h.at0 (x := ⟨ak, an, ap⟩) rfl
        have a1 := h.at1 (x := ⟨bk, bn, bp⟩) rfl
        have i1 := @isWhl_ok ⟨ak, an, ap⟩
        have i2 := @isWhl_ok ⟨bk, bn, bp⟩
        have i3 := @isRl_ok ⟨ak, an, ap⟩
        have i4 := @isRl_ok ⟨bk, bn, bp⟩
        have n1 : ¬ op < 1 ∧ ¬ 10 < op ∧ ¬ op ≤ 2 ∧ ¬ op ≤ 4 := by omega
        have hq2 : arity op = 2 := by rw [← hq]; rfl
        rw [e]
        simp (maxSteps := 4000000) -dsimp [-Y1, -Array.all_eq_true, -Y3, -Y4, and_assoc, Y5, Tryz.f91, sArityC, sIsBitC, sIsWhlC, sIsRlC, sDevOkC, a0.there, a0.all, a1.there, a1.all, conB, xD, hq2, n1, bothB]
        clear e
        generalize isWhl ⟨ak, an, ap⟩ = u1 at *
        generalize isWhl ⟨bk, bn, bp⟩ = u2 at *
        generalize isRl ⟨ak, an, ap⟩ = u3 at *
        generalize isRl ⟨bk, bn, bp⟩ = u4 at *
        generalize dOk ⟨ak, an, ap⟩ = u5 at *
        generalize dOk ⟨bk, bn, bp⟩ = u6 at *
        cases u1 <;> cases u2 <;> cases u3 <;> cases u4 <;> cases u5 <;> cases u6 <;> simp_all
    · have hq' : ¬ arity op = xs.length := fun h => hq h.symm
      simp only [hq, decide_false, Bool.false_and, Bool.and_false] at e
      simp (maxSteps := 4000000) -dsimp [-Y1, -Array.all_eq_true, -Y3, -Y4, and_assoc, Y5, Tryz.f91, sArityC, sIsBitC, sIsWhlC, sIsRlC, sDevOkC, e, h1, hq, hq']
  · simp only [h1, decide_false, Bool.false_and] at e
    by_cases h2 : 1 ≤ op
    · have h3 : ¬ op ≤ 10 := by omega
      have h4 : 10 < op := by omega
      simp (maxSteps := 4000000) -dsimp [-Y1, -Array.all_eq_true, -Y3, -Y4, and_assoc, Y5, Tryz.f91, sArityC, sIsBitC, sIsWhlC, sIsRlC, sDevOkC, e, h2, h3, h4]
    · have h3 : op < 1 := by omega
      simp (maxSteps := 4000000) -dsimp [-Y1, -Array.all_eq_true, -Y3, -Y4, and_assoc, Y5, Tryz.f91, sArityC, sIsBitC, sIsWhlC, sIsRlC, sDevOkC, e, h2, h3]
def sConC_S : Reads Tryz.prog 91 where
  ι := ((Int) × (Option Addr) × (Nat) × (List Dev))
  A := fun (i : ((Int) × (Option Addr) × (Nat) × (List Dev))) => match i with | (op, o, cap, xs) => [.agg #[.int .i64 op, .slice o xs.length cap]]
  pre := fun (i : ((Int) × (Option Addr) × (Nat) × (List Dev))) (F : Facts) => match i with | (op, o, cap, xs) => RdD F o xs ∧ xs.length ≤ 1048576
  res := fun (i : ((Int) × (Option Addr) × (Nat) × (List Dev))) => match i with | (op, o, cap, xs) => .bool (conOk op xs)
  mono := by
    intro i F G hs h
    first | exact h | exact h.mono hs | exact ⟨h.1.mono hs, h.2⟩ | exact ⟨h.1.mono hs, h.2.1.mono hs, h.2.2⟩ | exact ⟨h.1.mono hs, h.2.1.mono hs⟩ | exact ⟨h.1.mono hs, h.2.1.mono hs, h.2.2.1.mono hs, h.2.2.2⟩
  uniq := by
    rintro ⟨op, o, cap, xs⟩ ⟨op', o', cap', xs'⟩ F hA h h'
    simp at hA
    (try simp only [Int.natCast_inj] at hA)
    obtain rfl : xs = xs' := RdD.uniq h.1 h'.1 (by simp_all) (by simp_all)
    simp_all
  enter := Tryz.call91
  h := fun i w hp => sConC_c i.1 i.2.1 i.2.2.1 i.2.2.2 w (by rw [factF_init]; exact hp)
def sConC : Con Tryz.prog := Con.read sConC_S
theorem sConC_rw {op : Int} {o : Option Addr} {cap : Nat} {xs : List Dev} {d : Nat} {cx : Cx} {mem : List Blk} {K : C → Prop} (hpre : RdD (nowF cx mem) o xs ∧ xs.length ≤ 1048576) : ReadV d sConC_S cx [.v (.agg #[.int .i64 op, .slice o xs.length cap])] mem K = K (.v (.bool (conOk op xs))) := sConC_S.eq (op, o, cap, xs) rfl hpre

def calcG (a : Dev) (d : Dev) : Bool := if a.k = 9 then isWhl d else isRl d
def calcB (op : Int) (a : Dev) (r : List Dev) : Bool := dOk a && decide (a.k = 9 ∨ a.k = 10) && r.all (calcG a) && decide (a.k = 9 ∨ op ≠ 35)
theorem all_drop1 {g : Dev → Bool} {xs : List Dev} {i : Nat} {x : Dev} (hx : xs[i]? = some x) : (xs.drop i).all g = (g x && (xs.drop (i + 1)).all g) := by
  have hi := (List.getElem?_eq_some_iff.1 hx).1
  rw [List.drop_eq_getElem_cons hi, List.all_cons, (List.getElem?_eq_some_iff.1 hx).2]
theorem l4CalcC_c (op : Int) (o : Option Addr) (cap : Nat) (xs : List Dev) (w : World) (hpre : RdD (factF ⟨w, [], w, []⟩) o xs ∧ 0 < xs.length ∧ xs.length ≤ 1048576) : Calls Tryz.prog 170 #[.agg #[.int .i64 op, .slice o xs.length cap]] w fun e w' => e = .returned (.bool (calcB op (xD xs 0) (xs.drop 1))) ∧ RowKit.Below w.heap.size w w' := by
  refine (plain_of_vcs ⟨[l4KindC, sIsWhlC, sIsRlC], []⟩ hmx Tryz.func170 rfl (by kernel_rfl) (args := [.agg #[.int .i64 op, .slice o xs.length cap]]) (by simp [Tryz.ntmps170]) w (· = .bool (calcB op (xD xs 0) (xs.drop 1))) 400 ?_).mono fun e w' ⟨v, h1, h2, h3⟩ => ⟨h2 ▸ h1, h3⟩
  obtain ⟨h, h0, hl⟩ := hpre
  obtain ⟨⟨ak, an, ap⟩, hx0⟩ : ∃ a, xs[0]? = some a := ⟨xs[0], by simp [h0]⟩
  have a0 := h.at0 hx0
  have ex : xD xs 0 = ⟨ak, an, ap⟩ := by unfold xD; rw [List.getD_eq_getElem?_getD, hx0]; rfl
  rw [ex]
  have dk : dOk ⟨ak, an, ap⟩ = devOk ak an ap := rfl
  by_cases hk : devOk ak an ap = true ∧ (ak = 9 ∨ ak = 10)
  · obtain ⟨hd, hk⟩ := hk
    have hg : ∀ d : Dev, calcG ⟨ak, an, ap⟩ d = if ak = 9 then isWhl d else isRl d := fun d => rfl
    have e : calcB op ⟨ak, an, ap⟩ (xs.drop 1) = ((xs.drop 1).all (calcG ⟨ak, an, ap⟩) && decide (ak = 9 ∨ op ≠ 35)) := by
      unfold calcB; rw [dk, hd]; simp only [hk, decide_true, Bool.true_and]
    rw [e]
    obtain rfl | rfl := hk
    · simp (maxSteps := 4000000) -dsimp [-Y1, -Array.all_eq_true, -Y3, -Y4, and_assoc, Y5, Tryz.f170, l4KindC, sIsWhlC, sIsRlC, a0.there, a0.all, a0.k, hd, h0]
      intro b
      have eq0 : xs.tail.all (calcG ⟨9, an, ap⟩) = (xs.drop 1).all (calcG ⟨9, an, ap⟩) := by rw [List.drop_one]
      generalize xs.tail.all (calcG ⟨9, an, ap⟩) = q0 at *
      refine loop_inv (σ := ⟨[l4KindC, sIsWhlC, sIsRlC], []⟩) hmx (by kernel_rfl) (fun q cx tm mem => cx = ⟨w, [], w, []⟩ ∧ mem = [⟨b, [.v (.int .i64 op), .v (.slice o xs.length cap)], 55⟩] ∧ ∃ i : Nat, 1 ≤ i ∧ i ≤ xs.length ∧ q = xs.length - i ∧ q0 = (xs.drop i).all (calcG ⟨9, an, ap⟩) ∧ Sx.look tm 4 = .v (.int .i64 i) ∧ Sx.look tm 3 = .v (.bool true) ∧ Sx.look tm 1 = .p 0 b 0)
        (xs.length - 1) ⟨rfl, rfl, 1, by omega, by omega, rfl, eq0, by simp [Sx.look], by simp [Sx.look], by simp [Sx.look]⟩ ?_
      rintro q cx tm mem ⟨rfl, rfl, i, hi1, hi, rfl, hq0, j4, j3, j1⟩
      refine ⟨400, ?_⟩
      by_cases hlt : i < xs.length
      · obtain ⟨x, hx⟩ : ∃ x, xs[i]? = some x := ⟨xs[i], by simp [hlt]⟩
        have ed := all_drop1 (g := calcG ⟨9, an, ap⟩) hx
        rw [hg] at ed
        cases hb : isWhl x
        · simp only [hb, Bool.false_and, Bool.true_and, if_true, if_false, reduceIte, Int.reduceEq] at ed
          rw [ed] at hq0
          have hb' : isWhl ⟨x.k, x.n, x.p⟩ = false := hb
          simp (maxSteps := 4000000) -dsimp [-Y1, -Array.all_eq_true, -Y3, -Y4, and_assoc, Y5, Tryz.f170, l4KindC, sIsWhlC, sIsRlC, j4, j3, j1, hlt, h.there hlt, h.ld _ _ hx, hb', hb, hq0]
        · simp only [hb, Bool.false_and, Bool.true_and, if_true, if_false, reduceIte, Int.reduceEq] at ed
          rw [ed] at hq0
          have hb' : isWhl ⟨x.k, x.n, x.p⟩ = true := hb
          simp (maxSteps := 4000000) -dsimp [-Y1, -Array.all_eq_true, -Y3, -Y4, and_assoc, Y5, Tryz.f170, l4KindC, sIsWhlC, sIsRlC, j4, j3, j1, hlt, h.there hlt, h.ld _ _ hx, hb', hb, i_succ (i := i) (by omega)]
          exact ⟨1, _, by omega, rfl, i + 1, by omega, by omega, rfl, hq0, by omega⟩
      · obtain rfl : i = xs.length := by omega
        simp at hq0
        simp (maxSteps := 4000000) -dsimp [-Y1, -Array.all_eq_true, -Y3, -Y4, and_assoc, Y5, Tryz.f170, l4KindC, sIsWhlC, sIsRlC, j4, j3, j1, hq0]
    · simp (maxSteps := 4000000) -dsimp [-Y1, -Array.all_eq_true, -Y3, -Y4, and_assoc, Y5, Tryz.f170, l4KindC, sIsWhlC, sIsRlC, a0.there, a0.all, a0.k, hd, h0]
      intro b
      have eq0 : xs.tail.all (calcG ⟨10, an, ap⟩) = (xs.drop 1).all (calcG ⟨10, an, ap⟩) := by rw [List.drop_one]
      generalize xs.tail.all (calcG ⟨10, an, ap⟩) = q0 at *
      refine loop_inv (σ := ⟨[l4KindC, sIsWhlC, sIsRlC], []⟩) hmx (by kernel_rfl) (fun q cx tm mem => cx = ⟨w, [], w, []⟩ ∧ mem = [⟨b, [.v (.int .i64 op), .v (.slice o xs.length cap)], 55⟩] ∧ ∃ i : Nat, 1 ≤ i ∧ i ≤ xs.length ∧ q = xs.length - i ∧ q0 = (xs.drop i).all (calcG ⟨10, an, ap⟩) ∧ Sx.look tm 4 = .v (.int .i64 i) ∧ Sx.look tm 3 = .v (.bool false) ∧ Sx.look tm 1 = .p 0 b 0)
        (xs.length - 1) ⟨rfl, rfl, 1, by omega, by omega, rfl, eq0, by simp [Sx.look], by simp [Sx.look], by simp [Sx.look]⟩ ?_
      rintro q cx tm mem ⟨rfl, rfl, i, hi1, hi, rfl, hq0, j4, j3, j1⟩
      refine ⟨400, ?_⟩
      by_cases hlt : i < xs.length
      · obtain ⟨x, hx⟩ : ∃ x, xs[i]? = some x := ⟨xs[i], by simp [hlt]⟩
        have ed := all_drop1 (g := calcG ⟨10, an, ap⟩) hx
        rw [hg] at ed
        cases hb : isRl x
        · simp only [hb, Bool.false_and, Bool.true_and, if_true, if_false, reduceIte, Int.reduceEq] at ed
          rw [ed] at hq0
          have hb' : isRl ⟨x.k, x.n, x.p⟩ = false := hb
          simp (maxSteps := 4000000) -dsimp [-Y1, -Array.all_eq_true, -Y3, -Y4, and_assoc, Y5, Tryz.f170, l4KindC, sIsWhlC, sIsRlC, j4, j3, j1, hlt, h.there hlt, h.ld _ _ hx, hb', hb, hq0]
        · simp only [hb, Bool.false_and, Bool.true_and, if_true, if_false, reduceIte, Int.reduceEq] at ed
          rw [ed] at hq0
          have hb' : isRl ⟨x.k, x.n, x.p⟩ = true := hb
          simp (maxSteps := 4000000) -dsimp [-Y1, -Array.all_eq_true, -Y3, -Y4, and_assoc, Y5, Tryz.f170, l4KindC, sIsWhlC, sIsRlC, j4, j3, j1, hlt, h.there hlt, h.ld _ _ hx, hb', hb, i_succ (i := i) (by omega)]
          exact ⟨1, _, by omega, rfl, i + 1, by omega, by omega, rfl, hq0, by omega⟩
      · obtain rfl : i = xs.length := by omega
        simp at hq0
        simp (maxSteps := 4000000) -dsimp [-Y1, -Array.all_eq_true, -Y3, -Y4, and_assoc, Y5, Tryz.f170, l4KindC, sIsWhlC, sIsRlC, j4, j3, j1, hq0]
        rfl
  · have e : calcB op ⟨ak, an, ap⟩ (xs.drop 1) = false := by
      unfold calcB; rw [dk]
      cases hd : devOk ak an ap
      · simp
      · have : ¬ (ak = 9 ∨ ak = 10) := fun h => hk ⟨hd, h⟩
        simp [this]
    rw [e]
    cases hd : devOk ak an ap
    · simp (maxSteps := 4000000) -dsimp [-Y1, -Array.all_eq_true, -Y3, -Y4, and_assoc, Y5, Tryz.f170, l4KindC, sIsWhlC, sIsRlC, a0.there, a0.all, a0.k, hd, h0]
    · have n1 : ¬ ak = 9 ∧ ¬ ak = 10 := ⟨fun h => hk ⟨hd, Or.inl h⟩, fun h => hk ⟨hd, Or.inr h⟩⟩
      simp (maxSteps := 4000000) -dsimp [-Y1, -Array.all_eq_true, -Y3, -Y4, and_assoc, Y5, Tryz.f170, l4KindC, sIsWhlC, sIsRlC, a0.there, a0.all, a0.k, hd, h0, n1]
def l4CalcC_S : Reads Tryz.prog 170 where
  ι := ((Int) × (Option Addr) × (Nat) × (List Dev))
  A := fun (i : ((Int) × (Option Addr) × (Nat) × (List Dev))) => match i with | (op, o, cap, xs) => [.agg #[.int .i64 op, .slice o xs.length cap]]
  pre := fun (i : ((Int) × (Option Addr) × (Nat) × (List Dev))) (F : Facts) => match i with | (op, o, cap, xs) => RdD F o xs ∧ 0 < xs.length ∧ xs.length ≤ 1048576
  res := fun (i : ((Int) × (Option Addr) × (Nat) × (List Dev))) => match i with | (op, o, cap, xs) => .bool (calcB op (xD xs 0) (xs.drop 1))
  mono := by
    intro i F G hs h
    first | exact h | exact h.mono hs | exact ⟨h.1.mono hs, h.2⟩ | exact ⟨h.1.mono hs, h.2.1.mono hs, h.2.2⟩ | exact ⟨h.1.mono hs, h.2.1.mono hs⟩ | exact ⟨h.1.mono hs, h.2.1.mono hs, h.2.2.1.mono hs, h.2.2.2⟩
  uniq := by
    rintro ⟨op, o, cap, xs⟩ ⟨op', o', cap', xs'⟩ F hA h h'
    simp at hA
    (try simp only [Int.natCast_inj] at hA)
    obtain rfl : xs = xs' := RdD.uniq h.1 h'.1 (by simp_all) (by simp_all)
    simp_all
  enter := Tryz.call170
  h := fun i w hp => l4CalcC_c i.1 i.2.1 i.2.2.1 i.2.2.2 w (by rw [factF_init]; exact hp)
def l4CalcC : Con Tryz.prog := Con.read l4CalcC_S
theorem l4CalcC_rw {op : Int} {o : Option Addr} {cap : Nat} {xs : List Dev} {d : Nat} {cx : Cx} {mem : List Blk} {K : C → Prop} (hpre : RdD (nowF cx mem) o xs ∧ 0 < xs.length ∧ xs.length ≤ 1048576) : ReadV d l4CalcC_S cx [.v (.agg #[.int .i64 op, .slice o xs.length cap])] mem K = K (.v (.bool (calcB op (xD xs 0) (xs.drop 1)))) := l4CalcC_S.eq (op, o, cap, xs) rfl hpre

theorem sCoilC_c (op : Int) (o : Option Addr) (cap : Nat) (xs : List Dev) (w : World) (hpre : RdD (factF ⟨w, [], w, []⟩) o xs ∧ xs.length ≤ 1048576) : Calls Tryz.prog 92 #[.agg #[.int .i64 op, .slice o xs.length cap]] w fun e w' => e = .returned (.bool (coilOk op xs)) ∧ RowKit.Below w.heap.size w w' := by
  refine (plain_of_vcs ⟨[sArityC, l4KindC, sIsWhlC, sIsRlC, l4CalcC], []⟩ hmx Tryz.func92 rfl (by kernel_rfl) (args := [.agg #[.int .i64 op, .slice o xs.length cap]]) (by simp [Tryz.ntmps92]) w (· = .bool (coilOk op xs)) 400 ?_).mono fun e w' ⟨v, h1, h2, h3⟩ => ⟨h2 ▸ h1, h3⟩
  obtain ⟨h, hl⟩ := hpre
  have e := coilOk_eq op xs
  by_cases h1 : 21 ≤ op ∧ op ≤ 37
  · by_cases hq : (xs.length : Int) = arity op
    · simp only [h1, hq, decide_true, Bool.true_and, and_self] at e
      obtain rfl | rfl | rfl | rfl | rfl | rfl | rfl | rfl | rfl | rfl | rfl | rfl | rfl | rfl | rfl | rfl | rfl : op = 21 ∨ op = 22 ∨ op = 23 ∨ op = 25 ∨ op = 24 ∨ op = 26 ∨ op = 27 ∨ op = 28 ∨ op = 29 ∨ op = 30 ∨ op = 36 ∨ op = 37 ∨ op = 31 ∨ op = 32 ∨ op = 33 ∨ op = 34 ∨ op = 35 := by omega
      · obtain ⟨⟨ak, an, ap⟩, rfl⟩ := list_one (by rw [hq]; rfl)
        have a0 := h.at0 (x := ⟨ak, an, ap⟩) rfl
        have iwa : isWhl ⟨ak, an, ap⟩ = true → devOk ak an ap = true := isWhl_ok
        have ira : isRl ⟨ak, an, ap⟩ = true → devOk ak an ap = true := isRl_ok
        rw [e]
        simp (maxSteps := 4000000) -dsimp [-Y1, -Array.all_eq_true, -Y3, -Y4, and_assoc, Y5, Tryz.f92, sArityC, l4KindC, sIsWhlC, sIsRlC, l4CalcC, a0.there, a0.all, coilB, xD, arity, dOk, pOk]
        all_goals (clear e h hl hq; grind)
      · obtain ⟨⟨ak, an, ap⟩, rfl⟩ := list_one (by rw [hq]; rfl)
        have a0 := h.at0 (x := ⟨ak, an, ap⟩) rfl
        have iwa : isWhl ⟨ak, an, ap⟩ = true → devOk ak an ap = true := isWhl_ok
        have ira : isRl ⟨ak, an, ap⟩ = true → devOk ak an ap = true := isRl_ok
        rw [e]
        simp (maxSteps := 4000000) -dsimp [-Y1, -Array.all_eq_true, -Y3, -Y4, and_assoc, Y5, Tryz.f92, sArityC, l4KindC, sIsWhlC, sIsRlC, l4CalcC, a0.there, a0.all, coilB, xD, arity, dOk, pOk]
        all_goals (clear e h hl hq; grind)
      · obtain ⟨⟨ak, an, ap⟩, rfl⟩ := list_one (by rw [hq]; rfl)
        have a0 := h.at0 (x := ⟨ak, an, ap⟩) rfl
        have iwa : isWhl ⟨ak, an, ap⟩ = true → devOk ak an ap = true := isWhl_ok
        have ira : isRl ⟨ak, an, ap⟩ = true → devOk ak an ap = true := isRl_ok
        rw [e]
        simp (maxSteps := 4000000) -dsimp [-Y1, -Array.all_eq_true, -Y3, -Y4, and_assoc, Y5, Tryz.f92, sArityC, l4KindC, sIsWhlC, sIsRlC, l4CalcC, a0.there, a0.all, coilB, xD, arity, dOk, pOk]
        all_goals (clear e h hl hq; grind)
      · obtain ⟨⟨ak, an, ap⟩, rfl⟩ := list_one (by rw [hq]; rfl)
        have a0 := h.at0 (x := ⟨ak, an, ap⟩) rfl
        have iwa : isWhl ⟨ak, an, ap⟩ = true → devOk ak an ap = true := isWhl_ok
        have ira : isRl ⟨ak, an, ap⟩ = true → devOk ak an ap = true := isRl_ok
        rw [e]
        simp (maxSteps := 4000000) -dsimp [-Y1, -Array.all_eq_true, -Y3, -Y4, and_assoc, Y5, Tryz.f92, sArityC, l4KindC, sIsWhlC, sIsRlC, l4CalcC, a0.there, a0.all, coilB, xD, arity, dOk, pOk]
        all_goals (clear e h hl hq; grind)
      · obtain ⟨⟨ak, an, ap⟩, ⟨bk, bn, bp⟩, rfl⟩ := list_two (by rw [hq]; rfl)
        have a0 := h.at0 (x := ⟨ak, an, ap⟩) rfl
        have a1 := h.at1 (x := ⟨bk, bn, bp⟩) rfl
        have iwa : isWhl ⟨ak, an, ap⟩ = true → devOk ak an ap = true := isWhl_ok
        have ira : isRl ⟨ak, an, ap⟩ = true → devOk ak an ap = true := isRl_ok
        have iwb : isWhl ⟨bk, bn, bp⟩ = true → devOk bk bn bp = true := isWhl_ok
        have irb : isRl ⟨bk, bn, bp⟩ = true → devOk bk bn bp = true := isRl_ok
        rw [e]
        simp (maxSteps := 4000000) -dsimp [-Y1, -Array.all_eq_true, -Y3, -Y4, and_assoc, Y5, Tryz.f92, sArityC, l4KindC, sIsWhlC, sIsRlC, l4CalcC, a0.there, a0.all, a1.there, a1.all, a1.k, a1.n, coilB, xD, arity, dOk, pOk]
        all_goals (clear e h hl hq; grind)
      · obtain ⟨⟨ak, an, ap⟩, ⟨bk, bn, bp⟩, rfl⟩ := list_two (by rw [hq]; rfl)
        have a0 := h.at0 (x := ⟨ak, an, ap⟩) rfl
        have a1 := h.at1 (x := ⟨bk, bn, bp⟩) rfl
        have iwa : isWhl ⟨ak, an, ap⟩ = true → devOk ak an ap = true := isWhl_ok
        have ira : isRl ⟨ak, an, ap⟩ = true → devOk ak an ap = true := isRl_ok
        have iwb : isWhl ⟨bk, bn, bp⟩ = true → devOk bk bn bp = true := isWhl_ok
        have irb : isRl ⟨bk, bn, bp⟩ = true → devOk bk bn bp = true := isRl_ok
        rw [e]
        simp (maxSteps := 4000000) -dsimp [-Y1, -Array.all_eq_true, -Y3, -Y4, and_assoc, Y5, Tryz.f92, sArityC, l4KindC, sIsWhlC, sIsRlC, l4CalcC, a0.there, a0.all, a1.there, a1.all, a1.k, a1.n, coilB, xD, arity, dOk, pOk]
        all_goals (clear e h hl hq; grind)
      · obtain ⟨⟨ak, an, ap⟩, ⟨bk, bn, bp⟩, rfl⟩ := list_two (by rw [hq]; rfl)
        have a0 := h.at0 (x := ⟨ak, an, ap⟩) rfl
        have a1 := h.at1 (x := ⟨bk, bn, bp⟩) rfl
        have iwa : isWhl ⟨ak, an, ap⟩ = true → devOk ak an ap = true := isWhl_ok
        have ira : isRl ⟨ak, an, ap⟩ = true → devOk ak an ap = true := isRl_ok
        have iwb : isWhl ⟨bk, bn, bp⟩ = true → devOk bk bn bp = true := isWhl_ok
        have irb : isRl ⟨bk, bn, bp⟩ = true → devOk bk bn bp = true := isRl_ok
        rw [e]
        simp (maxSteps := 4000000) -dsimp [-Y1, -Array.all_eq_true, -Y3, -Y4, and_assoc, Y5, Tryz.f92, sArityC, l4KindC, sIsWhlC, sIsRlC, l4CalcC, a0.there, a0.all, a1.there, a1.all, a1.k, a1.n, coilB, xD, arity, dOk, pOk]
        all_goals (clear e h hl hq; grind)
      · obtain ⟨⟨ak, an, ap⟩, ⟨bk, bn, bp⟩, rfl⟩ := list_two (by rw [hq]; rfl)
        have a0 := h.at0 (x := ⟨ak, an, ap⟩) rfl
        have a1 := h.at1 (x := ⟨bk, bn, bp⟩) rfl
        have iwa : isWhl ⟨ak, an, ap⟩ = true → devOk ak an ap = true := isWhl_ok
        have ira : isRl ⟨ak, an, ap⟩ = true → devOk ak an ap = true := isRl_ok
        have iwb : isWhl ⟨bk, bn, bp⟩ = true → devOk bk bn bp = true := isWhl_ok
        have irb : isRl ⟨bk, bn, bp⟩ = true → devOk bk bn bp = true := isRl_ok
        rw [e]
        simp (maxSteps := 4000000) -dsimp [-Y1, -Array.all_eq_true, -Y3, -Y4, and_assoc, Y5, Tryz.f92, sArityC, l4KindC, sIsWhlC, sIsRlC, l4CalcC, a0.there, a0.all, a1.there, a1.all, a1.k, a1.n, coilB, xD, arity, dOk, pOk]
        all_goals (clear e h hl hq; grind)
      · obtain ⟨⟨ak, an, ap⟩, ⟨bk, bn, bp⟩, rfl⟩ := list_two (by rw [hq]; rfl)
        have a0 := h.at0 (x := ⟨ak, an, ap⟩) rfl
        have a1 := h.at1 (x := ⟨bk, bn, bp⟩) rfl
        have iwa : isWhl ⟨ak, an, ap⟩ = true → devOk ak an ap = true := isWhl_ok
        have ira : isRl ⟨ak, an, ap⟩ = true → devOk ak an ap = true := isRl_ok
        have iwb : isWhl ⟨bk, bn, bp⟩ = true → devOk bk bn bp = true := isWhl_ok
        have irb : isRl ⟨bk, bn, bp⟩ = true → devOk bk bn bp = true := isRl_ok
        rw [e]
        simp (maxSteps := 4000000) -dsimp [-Y1, -Array.all_eq_true, -Y3, -Y4, and_assoc, Y5, Tryz.f92, sArityC, l4KindC, sIsWhlC, sIsRlC, l4CalcC, a0.there, a0.all, a1.there, a1.all, a1.k, a1.n, coilB, xD, arity, dOk, pOk]
        all_goals (clear e h hl hq; grind)
      · obtain ⟨⟨ak, an, ap⟩, ⟨bk, bn, bp⟩, rfl⟩ := list_two (by rw [hq]; rfl)
        have a0 := h.at0 (x := ⟨ak, an, ap⟩) rfl
        have a1 := h.at1 (x := ⟨bk, bn, bp⟩) rfl
        have y := fun d mem K => l4CalcC_rw (op := 30) (cap := cap) (d := d) (cx := ⟨w, [], w, []⟩) (mem := mem) (K := K) ⟨h.mono (sub_now _ _), by simp, by simp⟩
        simp only [List.length_cons, List.length_nil, Nat.zero_add, Nat.reduceAdd] at y
        have iwa : isWhl ⟨ak, an, ap⟩ = true → devOk ak an ap = true := isWhl_ok
        have ira : isRl ⟨ak, an, ap⟩ = true → devOk ak an ap = true := isRl_ok
        have iwb : isWhl ⟨bk, bn, bp⟩ = true → devOk bk bn bp = true := isWhl_ok
        have irb : isRl ⟨bk, bn, bp⟩ = true → devOk bk bn bp = true := isRl_ok
        rw [e]
        simp (maxSteps := 4000000) -dsimp [-Y1, -Array.all_eq_true, -Y3, -Y4, and_assoc, Y5, Tryz.f92, sArityC, l4KindC, sIsWhlC, sIsRlC, l4CalcC, a0.there, a0.all, a1.there, a1.all, a1.k, a1.n, y, calcB, calcG, coilB, xD, arity, dOk, pOk]
        all_goals (clear e h hl hq; grind)
      · obtain ⟨⟨ak, an, ap⟩, ⟨bk, bn, bp⟩, rfl⟩ := list_two (by rw [hq]; rfl)
        have a0 := h.at0 (x := ⟨ak, an, ap⟩) rfl
        have a1 := h.at1 (x := ⟨bk, bn, bp⟩) rfl
        have iwa : isWhl ⟨ak, an, ap⟩ = true → devOk ak an ap = true := isWhl_ok
        have ira : isRl ⟨ak, an, ap⟩ = true → devOk ak an ap = true := isRl_ok
        have iwb : isWhl ⟨bk, bn, bp⟩ = true → devOk bk bn bp = true := isWhl_ok
        have irb : isRl ⟨bk, bn, bp⟩ = true → devOk bk bn bp = true := isRl_ok
        rw [e]
        simp (maxSteps := 4000000) -dsimp [-Y1, -Array.all_eq_true, -Y3, -Y4, and_assoc, Y5, Tryz.f92, sArityC, l4KindC, sIsWhlC, sIsRlC, l4CalcC, a0.there, a0.all, a1.there, a1.all, a1.k, a1.n, coilB, xD, arity, dOk, pOk]
        all_goals (clear e h hl hq; grind)
      · obtain ⟨⟨ak, an, ap⟩, ⟨bk, bn, bp⟩, rfl⟩ := list_two (by rw [hq]; rfl)
        have a0 := h.at0 (x := ⟨ak, an, ap⟩) rfl
        have a1 := h.at1 (x := ⟨bk, bn, bp⟩) rfl
        have iwa : isWhl ⟨ak, an, ap⟩ = true → devOk ak an ap = true := isWhl_ok
        have ira : isRl ⟨ak, an, ap⟩ = true → devOk ak an ap = true := isRl_ok
        have iwb : isWhl ⟨bk, bn, bp⟩ = true → devOk bk bn bp = true := isWhl_ok
        have irb : isRl ⟨bk, bn, bp⟩ = true → devOk bk bn bp = true := isRl_ok
        rw [e]
        simp (maxSteps := 4000000) -dsimp [-Y1, -Array.all_eq_true, -Y3, -Y4, and_assoc, Y5, Tryz.f92, sArityC, l4KindC, sIsWhlC, sIsRlC, l4CalcC, a0.there, a0.all, a1.there, a1.all, a1.k, a1.n, coilB, xD, arity, dOk, pOk]
        all_goals (clear e h hl hq; grind)
      · obtain ⟨⟨ak, an, ap⟩, ⟨bk, bn, bp⟩, ⟨ck, cn, cp⟩, rfl⟩ := list_three (by rw [hq]; rfl)
        have a0 := h.at0 (x := ⟨ak, an, ap⟩) rfl
        have a1 := h.at1 (x := ⟨bk, bn, bp⟩) rfl
        have a2 := h.at2 (x := ⟨ck, cn, cp⟩) rfl
        have y := fun d mem K => l4CalcC_rw (op := 31) (cap := cap) (d := d) (cx := ⟨w, [], w, []⟩) (mem := mem) (K := K) ⟨h.mono (sub_now _ _), by simp, by simp⟩
        simp only [List.length_cons, List.length_nil, Nat.zero_add, Nat.reduceAdd] at y
        have iwa : isWhl ⟨ak, an, ap⟩ = true → devOk ak an ap = true := isWhl_ok
        have ira : isRl ⟨ak, an, ap⟩ = true → devOk ak an ap = true := isRl_ok
        have iwb : isWhl ⟨bk, bn, bp⟩ = true → devOk bk bn bp = true := isWhl_ok
        have irb : isRl ⟨bk, bn, bp⟩ = true → devOk bk bn bp = true := isRl_ok
        have iwc : isWhl ⟨ck, cn, cp⟩ = true → devOk ck cn cp = true := isWhl_ok
        have irc : isRl ⟨ck, cn, cp⟩ = true → devOk ck cn cp = true := isRl_ok
        rw [e]
        simp (maxSteps := 4000000) -dsimp [-Y1, -Array.all_eq_true, -Y3, -Y4, and_assoc, Y5, Tryz.f92, sArityC, l4KindC, sIsWhlC, sIsRlC, l4CalcC, a0.there, a0.all, a1.there, a1.all, a1.k, a1.n, a2.there, a2.all, a2.k, a2.n, y, calcB, calcG, coilB, xD, arity, dOk, pOk]
        all_goals (clear e h hl hq; grind)
      · obtain ⟨⟨ak, an, ap⟩, ⟨bk, bn, bp⟩, ⟨ck, cn, cp⟩, rfl⟩ := list_three (by rw [hq]; rfl)
        have a0 := h.at0 (x := ⟨ak, an, ap⟩) rfl
        have a1 := h.at1 (x := ⟨bk, bn, bp⟩) rfl
        have a2 := h.at2 (x := ⟨ck, cn, cp⟩) rfl
        have y := fun d mem K => l4CalcC_rw (op := 32) (cap := cap) (d := d) (cx := ⟨w, [], w, []⟩) (mem := mem) (K := K) ⟨h.mono (sub_now _ _), by simp, by simp⟩
        simp only [List.length_cons, List.length_nil, Nat.zero_add, Nat.reduceAdd] at y
        have iwa : isWhl ⟨ak, an, ap⟩ = true → devOk ak an ap = true := isWhl_ok
        have ira : isRl ⟨ak, an, ap⟩ = true → devOk ak an ap = true := isRl_ok
        have iwb : isWhl ⟨bk, bn, bp⟩ = true → devOk bk bn bp = true := isWhl_ok
        have irb : isRl ⟨bk, bn, bp⟩ = true → devOk bk bn bp = true := isRl_ok
        have iwc : isWhl ⟨ck, cn, cp⟩ = true → devOk ck cn cp = true := isWhl_ok
        have irc : isRl ⟨ck, cn, cp⟩ = true → devOk ck cn cp = true := isRl_ok
        rw [e]
        simp (maxSteps := 4000000) -dsimp [-Y1, -Array.all_eq_true, -Y3, -Y4, and_assoc, Y5, Tryz.f92, sArityC, l4KindC, sIsWhlC, sIsRlC, l4CalcC, a0.there, a0.all, a1.there, a1.all, a1.k, a1.n, a2.there, a2.all, a2.k, a2.n, y, calcB, calcG, coilB, xD, arity, dOk, pOk]
        all_goals (clear e h hl hq; grind)
      · obtain ⟨⟨ak, an, ap⟩, ⟨bk, bn, bp⟩, ⟨ck, cn, cp⟩, rfl⟩ := list_three (by rw [hq]; rfl)
        have a0 := h.at0 (x := ⟨ak, an, ap⟩) rfl
        have a1 := h.at1 (x := ⟨bk, bn, bp⟩) rfl
        have a2 := h.at2 (x := ⟨ck, cn, cp⟩) rfl
        have y := fun d mem K => l4CalcC_rw (op := 33) (cap := cap) (d := d) (cx := ⟨w, [], w, []⟩) (mem := mem) (K := K) ⟨h.mono (sub_now _ _), by simp, by simp⟩
        simp only [List.length_cons, List.length_nil, Nat.zero_add, Nat.reduceAdd] at y
        have iwa : isWhl ⟨ak, an, ap⟩ = true → devOk ak an ap = true := isWhl_ok
        have ira : isRl ⟨ak, an, ap⟩ = true → devOk ak an ap = true := isRl_ok
        have iwb : isWhl ⟨bk, bn, bp⟩ = true → devOk bk bn bp = true := isWhl_ok
        have irb : isRl ⟨bk, bn, bp⟩ = true → devOk bk bn bp = true := isRl_ok
        have iwc : isWhl ⟨ck, cn, cp⟩ = true → devOk ck cn cp = true := isWhl_ok
        have irc : isRl ⟨ck, cn, cp⟩ = true → devOk ck cn cp = true := isRl_ok
        rw [e]
        simp (maxSteps := 4000000) -dsimp [-Y1, -Array.all_eq_true, -Y3, -Y4, and_assoc, Y5, Tryz.f92, sArityC, l4KindC, sIsWhlC, sIsRlC, l4CalcC, a0.there, a0.all, a1.there, a1.all, a1.k, a1.n, a2.there, a2.all, a2.k, a2.n, y, calcB, calcG, coilB, xD, arity, dOk, pOk]
        all_goals (clear e h hl hq; grind)
      · obtain ⟨⟨ak, an, ap⟩, ⟨bk, bn, bp⟩, ⟨ck, cn, cp⟩, rfl⟩ := list_three (by rw [hq]; rfl)
        have a0 := h.at0 (x := ⟨ak, an, ap⟩) rfl
        have a1 := h.at1 (x := ⟨bk, bn, bp⟩) rfl
        have a2 := h.at2 (x := ⟨ck, cn, cp⟩) rfl
        have y := fun d mem K => l4CalcC_rw (op := 34) (cap := cap) (d := d) (cx := ⟨w, [], w, []⟩) (mem := mem) (K := K) ⟨h.mono (sub_now _ _), by simp, by simp⟩
        simp only [List.length_cons, List.length_nil, Nat.zero_add, Nat.reduceAdd] at y
        have iwa : isWhl ⟨ak, an, ap⟩ = true → devOk ak an ap = true := isWhl_ok
        have ira : isRl ⟨ak, an, ap⟩ = true → devOk ak an ap = true := isRl_ok
        have iwb : isWhl ⟨bk, bn, bp⟩ = true → devOk bk bn bp = true := isWhl_ok
        have irb : isRl ⟨bk, bn, bp⟩ = true → devOk bk bn bp = true := isRl_ok
        have iwc : isWhl ⟨ck, cn, cp⟩ = true → devOk ck cn cp = true := isWhl_ok
        have irc : isRl ⟨ck, cn, cp⟩ = true → devOk ck cn cp = true := isRl_ok
        rw [e]
        simp (maxSteps := 4000000) -dsimp [-Y1, -Array.all_eq_true, -Y3, -Y4, and_assoc, Y5, Tryz.f92, sArityC, l4KindC, sIsWhlC, sIsRlC, l4CalcC, a0.there, a0.all, a1.there, a1.all, a1.k, a1.n, a2.there, a2.all, a2.k, a2.n, y, calcB, calcG, coilB, xD, arity, dOk, pOk]
        all_goals (clear e h hl hq; grind)
      · obtain ⟨⟨ak, an, ap⟩, ⟨bk, bn, bp⟩, ⟨ck, cn, cp⟩, rfl⟩ := list_three (by rw [hq]; rfl)
        have a0 := h.at0 (x := ⟨ak, an, ap⟩) rfl
        have a1 := h.at1 (x := ⟨bk, bn, bp⟩) rfl
        have a2 := h.at2 (x := ⟨ck, cn, cp⟩) rfl
        have y := fun d mem K => l4CalcC_rw (op := 35) (cap := cap) (d := d) (cx := ⟨w, [], w, []⟩) (mem := mem) (K := K) ⟨h.mono (sub_now _ _), by simp, by simp⟩
        simp only [List.length_cons, List.length_nil, Nat.zero_add, Nat.reduceAdd] at y
        have iwa : isWhl ⟨ak, an, ap⟩ = true → devOk ak an ap = true := isWhl_ok
        have ira : isRl ⟨ak, an, ap⟩ = true → devOk ak an ap = true := isRl_ok
        have iwb : isWhl ⟨bk, bn, bp⟩ = true → devOk bk bn bp = true := isWhl_ok
        have irb : isRl ⟨bk, bn, bp⟩ = true → devOk bk bn bp = true := isRl_ok
        have iwc : isWhl ⟨ck, cn, cp⟩ = true → devOk ck cn cp = true := isWhl_ok
        have irc : isRl ⟨ck, cn, cp⟩ = true → devOk ck cn cp = true := isRl_ok
        rw [e]
        simp (maxSteps := 4000000) -dsimp [-Y1, -Array.all_eq_true, -Y3, -Y4, and_assoc, Y5, Tryz.f92, sArityC, l4KindC, sIsWhlC, sIsRlC, l4CalcC, a0.there, a0.all, a1.there, a1.all, a1.k, a1.n, a2.there, a2.all, a2.k, a2.n, y, calcB, calcG, coilB, xD, arity, dOk, pOk]
        all_goals (clear e h hl hq; grind)
    · have hq' : ¬ arity op = xs.length := fun h => hq h.symm
      simp only [hq, decide_false, Bool.false_and, Bool.and_false] at e
      simp (maxSteps := 4000000) -dsimp [-Y1, -Array.all_eq_true, -Y3, -Y4, and_assoc, Y5, Tryz.f92, sArityC, l4KindC, sIsWhlC, sIsRlC, l4CalcC, e, h1, hq, hq']
  · simp only [h1, decide_false, Bool.false_and] at e
    by_cases h2 : 21 ≤ op
    · have h3 : ¬ op ≤ 37 := by omega
      have h4 : 37 < op := by omega
      simp (maxSteps := 4000000) -dsimp [-Y1, -Array.all_eq_true, -Y3, -Y4, and_assoc, Y5, Tryz.f92, sArityC, l4KindC, sIsWhlC, sIsRlC, l4CalcC, e, h2, h3, h4]
    · have h3 : op < 21 := by omega
      simp (maxSteps := 4000000) -dsimp [-Y1, -Array.all_eq_true, -Y3, -Y4, and_assoc, Y5, Tryz.f92, sArityC, l4KindC, sIsWhlC, sIsRlC, l4CalcC, e, h2, h3]
def sCoilC_S : Reads Tryz.prog 92 where
  ι := ((Int) × (Option Addr) × (Nat) × (List Dev))
  A := fun (i : ((Int) × (Option Addr) × (Nat) × (List Dev))) => match i with | (op, o, cap, xs) => [.agg #[.int .i64 op, .slice o xs.length cap]]
  pre := fun (i : ((Int) × (Option Addr) × (Nat) × (List Dev))) (F : Facts) => match i with | (op, o, cap, xs) => RdD F o xs ∧ xs.length ≤ 1048576
  res := fun (i : ((Int) × (Option Addr) × (Nat) × (List Dev))) => match i with | (op, o, cap, xs) => .bool (coilOk op xs)
  mono := by
    intro i F G hs h
    first | exact h | exact h.mono hs | exact ⟨h.1.mono hs, h.2⟩ | exact ⟨h.1.mono hs, h.2.1.mono hs, h.2.2⟩ | exact ⟨h.1.mono hs, h.2.1.mono hs⟩ | exact ⟨h.1.mono hs, h.2.1.mono hs, h.2.2.1.mono hs, h.2.2.2⟩
  uniq := by
    rintro ⟨op, o, cap, xs⟩ ⟨op', o', cap', xs'⟩ F hA h h'
    simp at hA
    (try simp only [Int.natCast_inj] at hA)
    obtain rfl : xs = xs' := RdD.uniq h.1 h'.1 (by simp_all) (by simp_all)
    simp_all
  enter := Tryz.call92
  h := fun i w hp => sCoilC_c i.1 i.2.1 i.2.2.1 i.2.2.2 w (by rw [factF_init]; exact hp)
def sCoilC : Con Tryz.prog := Con.read sCoilC_S
theorem sCoilC_rw {op : Int} {o : Option Addr} {cap : Nat} {xs : List Dev} {d : Nat} {cx : Cx} {mem : List Blk} {K : C → Prop} (hpre : RdD (nowF cx mem) o xs ∧ xs.length ≤ 1048576) : ReadV d sCoilC_S cx [.v (.agg #[.int .i64 op, .slice o xs.length cap])] mem K = K (.v (.bool (coilOk op xs))) := sCoilC_S.eq (op, o, cap, xs) rfl hpre
end Go.Proofs.YtclbanhoiaieaaaGreatDoor
