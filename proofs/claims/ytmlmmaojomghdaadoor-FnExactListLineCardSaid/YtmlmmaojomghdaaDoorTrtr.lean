/-
  The laws of instructions' texts, walked.
-/
import Derived.Test.YtmlmmaojomghdaaDoorTqtr
import Derived.Test.YtmlmmaojomghdaaDoorIltr
set_option linter.unusedVariables false
set_option linter.unusedSimpArgs false
set_option maxRecDepth 100000
set_option maxHeartbeats 4000000
namespace Go.Proofs.YtmlmmaojomghdaaDoor
open Go Go.Sx
attribute [local simp] Sx.vcsE1 Sx.vcsE2 Sx.vcsE3 Sx.vcsE4 Sx.vcsE5 Sx.vcsE6 Sx.vcsE7 Sx.vcsE8 Sx.vcsE9 Sx.vcsE10 Sx.vcsE11 Sx.vcsE12 Sx.vcsE13 Sx.vcsE14 Sx.vcsE15 Sx.vcsE16 Sx.vcsE17 Sx.vcsE18 Sx.vcsE19 Sx.get Sx.look Sx.put Sx.pureFn Sx.findOrd Sx.unF Sx.dstOk Sx.isFloatT Sx.endVC Sx.resFn Sx.packC Sx.newFn Sx.storeFn Sx.buildFn Sx.known Sx.aggT Sx.cellsC Sx.findCon Sx.allV Sx.partsV Sx.partsC Sx.fillL Sx.exitTo Sx.fAr Sx.eqFn Sx.eqFieldsFn Sx.eqElemsFn Sx.partFn Sx.sliceFn Sx.boundFn Sx.AppV Sx.CopyV Sx.MakeSliceV Sx.NewsV Sx.GrowV Sx.TextV Sx.bytesL Sx.notInt Sx.typeAt Sx.argAt Sx.den Go.undef Go.Value.cells Go.Value.oneCell' Sx.Con.pure Sx.Con.some Sx.Con.read Sx.Con.make Sx.Con.ext Sx.Con.rel Sx.Con.extS Sx.Con.draw Sx.Con.step Sx.C.one Sx.Draws.steps

theorem lawListLineC_c (code op : Int) (o : Option Addr) (cap : Nat) (xs : List Dev) (w : World) (hpre : RdD (factF ⟨w, [], w, []⟩) o xs ∧ TL (factF ⟨w, [], w, []⟩) ∧ xs.length ≤ 9223372036854775807) : Calls Tryd.prog 6 #[.agg #[.int .i64 code, .int .i64 op, .slice o xs.length cap]] w fun e w' => e = .returned (.bool true) ∧ RowKit.Below w.heap.size w w' := by
  refine (plain_of_vcs ⟨[szInstC, toInstC, sListLineC, iListLineC, eqInstC], [(10, [(0, false), (1, false), (2, false), (0, true), (3, false), (4, false)])]⟩ hmx Tryd.func6 rfl (by kernel_rfl) (args := [.agg #[.int .i64 code, .int .i64 op, .slice o xs.length cap]]) (by simp [Tryd.ntmps6]) w (· = .bool true) 400 ?_).mono fun e w' ⟨v, h1, h2, h3⟩ => ⟨h2 ▸ h1, h3⟩
  obtain ⟨h, ht, hl⟩ := hpre
  by_cases hx : xs.length ≤ 1048576
  · have hs1 : ¬ (1048576 : Int) < xs.length := by omega
    have hs2 : ¬ (1048576 - xs.length : Int) < 0 := by omega
    simp (maxSteps := 4000000) -dsimp [-List.all_eq_true, -Array.all_eq_true, -Bool.exists_bool, -Bool.forall_bool, and_assoc, List.zipIdx, Tryd.f6, szInstC, toInstC, sListLineC, iListLineC, eqInstC, hl, hs1, hs2]
    intro b0 _
    refine ⟨(code, op, o, cap, xs), rfl, ⟨h.mono (sub_now _ _), hx⟩, ?_⟩
    rintro cx1 v hle1 hv
    obtain ⟨o1, cap1, rfl, a1, _, _⟩ := hv.ex
    simp (maxSteps := 4000000) -dsimp [-List.all_eq_true, -Array.all_eq_true, -Bool.exists_bool, -Bool.forall_bool, and_assoc, List.zipIdx, Tryd.f6, szInstC, toInstC, sListLineC, iListLineC, eqInstC]
    refine (sListLineC_rw ⟨a1.mono ((sub_new _).trans (sub_now _ _)), hx⟩).mpr ?_
    simp (maxSteps := 4000000) -dsimp [-List.all_eq_true, -Array.all_eq_true, -Bool.exists_bool, -Bool.forall_bool, and_assoc, List.zipIdx, Tryd.f6, szInstC, toInstC, sListLineC, iListLineC, eqInstC]
    refine ⟨(code, op, o, cap, xs), rfl, ⟨h.mono (hle1.fact.trans (sub_now _ _)), hx⟩, ?_⟩
    rintro cx2 v hle2 hv
    obtain ⟨o2, cap2, rfl, a2, a3, a4⟩ := hv.ex
    have a5 : cap2 ≤ 9223372036854775807 := by unfold maxLen at a4; omega
    simp (maxSteps := 4000000) -dsimp [-List.all_eq_true, -Array.all_eq_true, -Bool.exists_bool, -Bool.forall_bool, and_assoc, List.zipIdx, Tryd.f6, szInstC, toInstC, sListLineC, iListLineC, eqInstC]
    intro b1
    refine (iListLineC_rw (cap := cap2) (xs := xs) ⟨a2.mono ((sub_new _).trans (sub_now _ _)), ht.mono ((hle1.trans hle2).fact.trans (sub_now _ _)), hx, a3, a5⟩).mpr ?_
    simp (maxSteps := 4000000) -dsimp [-List.all_eq_true, -Array.all_eq_true, -Bool.exists_bool, -Bool.forall_bool, and_assoc, List.zipIdx, Tryd.f6, szInstC, toInstC, sListLineC, iListLineC, eqInstC]
    have l2 := hle1.trans hle2
    refine ⟨(code, op, o, cap, xs), rfl, ⟨h.mono (l2.fact.trans (sub_now _ _)), hx⟩, ?_⟩
    rintro cx3 v hle3 hv
    obtain ⟨o3, cap3, rfl, a6, _, _⟩ := hv.ex
    simp (maxSteps := 4000000) -dsimp [-List.all_eq_true, -Array.all_eq_true, -Bool.exists_bool, -Bool.forall_bool, and_assoc, List.zipIdx, Tryd.f6, szInstC, toInstC, sListLineC, iListLineC, eqInstC]
    refine (eqInstC_rw ⟨a2.mono ((sub_new _).trans (hle3.fact.trans (sub_now _ _))), a6.mono ((sub_new _).trans (sub_now _ _)), hx⟩).mpr ?_
    have hw := (l2.trans hle3).w0
    have hg := (l2.trans hle3).g0
    simp (maxSteps := 4000000) -dsimp [-List.all_eq_true, -Array.all_eq_true, -Bool.exists_bool, -Bool.forall_bool, and_assoc, List.zipIdx, Tryd.f6, szInstC, toInstC, sListLineC, iListLineC, eqInstC, hw, hg]
  · have hs1 : (1048576 : Int) < xs.length := by omega
    simp (maxSteps := 4000000) -dsimp [-List.all_eq_true, -Array.all_eq_true, -Bool.exists_bool, -Bool.forall_bool, and_assoc, List.zipIdx, Tryd.f6, szInstC, toInstC, sListLineC, iListLineC, eqInstC, hl, hs1]
end Go.Proofs.YtmlmmaojomghdaaDoor
