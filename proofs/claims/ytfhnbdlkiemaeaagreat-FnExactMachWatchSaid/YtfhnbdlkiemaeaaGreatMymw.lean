/-
  Contracts: a step of the machine, by the reference.
-/
import Derived.Test.YtfhnbdlkiemaeaaGreatMsmw
import Derived.Test.YtfhnbdlkiemaeaaGreatBvmw
import Derived.Test.YtfhnbdlkiemaeaaGreatDrmw
import Derived.Test.YtfhnbdlkiemaeaaGreatXmw
import Derived.Test.YtfhnbdlkiemaeaaGreatDwmw
set_option linter.unusedVariables false
set_option linter.unusedSimpArgs false
set_option maxRecDepth 100000
set_option maxHeartbeats 4000000
namespace Go.Proofs.YtfhnbdlkiemaeaaGreat
open Go Go.Sx
attribute [local simp] Go.Sx.vcsE1 Go.Sx.vcsE2 Go.Sx.vcsE3 Go.Sx.vcsE4 Go.Sx.vcsE5 Go.Sx.vcsE6 Go.Sx.vcsE7 Go.Sx.vcsE8 Go.Sx.vcsE9 Go.Sx.vcsE10 Go.Sx.vcsE11 Go.Sx.vcsE12 Go.Sx.vcsE13 Go.Sx.vcsE14 Go.Sx.vcsE15 Go.Sx.vcsE16 Go.Sx.vcsE17 Go.Sx.vcsE18 Go.Sx.vcsE19 Go.Sx.get Go.Sx.look Go.Sx.put Go.Sx.pureFn Go.Sx.findOrd Go.Sx.unF Go.Sx.dstOk Go.Sx.isFloatT Go.Sx.endVC Go.Sx.resFn Go.Sx.packC Go.Sx.newFn Go.Sx.storeFn Go.Sx.buildFn Go.Sx.known Go.Sx.aggT Go.Sx.cellsC Go.Sx.findCon Go.Sx.allV Go.Sx.partsV Go.Sx.partsC Go.Sx.fillL Go.Sx.exitTo Go.Sx.fAr Go.Sx.eqFn Go.Sx.eqFieldsFn Go.Sx.eqElemsFn Go.Sx.partFn Go.Sx.sliceFn Go.Sx.boundFn Go.Sx.AppV Go.Sx.CopyV Go.Sx.MakeSliceV Go.Sx.NewsV Go.Sx.GrowV Go.Sx.TextV Go.Sx.bytesL Go.Sx.notInt Go.Sx.typeAt Go.Sx.argAt Go.Sx.den Go.undef Go.Value.cells Go.Value.oneCell' Go.Sx.Con.pure Go.Sx.Con.some Go.Sx.Con.read Go.Sx.Con.make Go.Sx.Con.ext Go.Sx.Con.rel Go.Sx.Con.extS Go.Sx.Con.draw Go.Sx.Con.step Go.Sx.C.one Go.Sx.Draws.steps

theorem zero_st : zeroL Tryz.prog 60 = some (stL (bootN zeroM)) := by kernel_rfl
theorem machStepC_c (t : MS) (code op : Int) (o : Option Addr) (cap : Nat) (xs : List Dev) (dt : Int) (w : World) (hpre : RdD (factF ⟨w, [], w, []⟩) o xs ∧ MSOk t ∧ 0 ≤ dt ∧ dt < 65536) : Calls Tryz.prog 18 #[.agg (stA t), .agg #[.int .i64 code, .int .i64 op, .slice o xs.length cap], .int .u16 dt] w fun e w' => ∃ v, e = .returned v ∧ (fun v => IsSt v (machN t ⟨code, op, xs⟩ dt)) v ∧ RowKit.Below w.heap.size w w' := by
  refine plain_of_vcs ⟨[actTestC, bitPushC, bitPopC, bitTopC, bitTurnC, forkPushC, forkPopC, forkTopC, actDoC], []⟩ hmx Tryz.func18 rfl (by kernel_rfl) (args := [.agg (stA t), .agg #[.int .i64 code, .int .i64 op, .slice o xs.length cap], .int .u16 dt]) (by simp [Tryz.ntmps18]) w (fun v => IsSt v (machN t ⟨code, op, xs⟩ dt)) 400 ?_
  obtain ⟨h, ⟨hm, hs, hf⟩, hd1, hd2⟩ := hpre
  have t1 := fun (d : Nat) (mem : List Blk) (K : C → Prop) => actTestC_rw (d := d) (cx := ⟨w, [], w, []⟩) (mem := mem) (K := K) (m := t.m) (op := op) (o := o) (cap := cap) (xs := xs) ⟨h.mono (sub_now _ _), hm⟩
  have tmo := testM_ok (op := op) (a := argD xs 0) (b := argD xs 1) hm
  have hso : ∀ {s : Int × Int}, SOk 16 s → 0 ≤ s.1 ∧ s.1 < 65536 := fun h => h.bd16
  have hpp := (popB_ok hs.1).bd16
  have hp1 := hpp.1
  have hp2 := hpp.2
  unfold popB gS at hp1 hp2
  by_cases c1 : code = 1
  · rw [machN_low (by simp only; omega)]
    have ho := (joinB_ok hs.1 code (testB t.m op (argD xs 0) (argD xs 1))).bd16
    subst c1
    simp (maxSteps := 4000000) -dsimp [-List.all_eq_true, -Array.all_eq_true, -Bool.exists_bool, -Bool.forall_bool, and_assoc, List.zipIdx, Tryz.f18, actTestC, bitPushC, bitPopC, bitTopC, bitTurnC, forkPushC, forkPopC, forkTopC, actDoC, -Sx.splice_two, hs, hf, hm, hd1, hd2, st_put, st_putS, st_putF, zero_st, spl2, t1]
    (try intro _ _ _ _)
    exact ⟨_, rfl, MSt.refl _, tmo, ho, hf⟩
  by_cases c2 : code = 2
  · rw [machN_low (by simp only; omega)]
    have ho := (joinB_ok hs.1 code (testB t.m op (argD xs 0) (argD xs 1))).bd16
    subst c2
    have e : joinB 2 t.s (testB t.m op (argD xs 0) (argD xs 1)) = turnS (goodS 16 t.s.1 t.s.2) (topS (goodS 16 t.s.1 t.s.2) && testB t.m op (argD xs 0) (argD xs 1)) := rfl
    simp only [e] at ho ⊢
    cases htop : topS (goodS 16 t.s.1 t.s.2)
    all_goals
      rw [htop] at ho
      simp only [Bool.false_and, Bool.true_and, Bool.false_or, Bool.true_or] at ho ⊢
      simp (maxSteps := 4000000) -dsimp [-List.all_eq_true, -Array.all_eq_true, -Bool.exists_bool, -Bool.forall_bool, and_assoc, List.zipIdx, Tryz.f18, actTestC, bitPushC, bitPopC, bitTopC, bitTurnC, forkPushC, forkPopC, forkTopC, actDoC, -Sx.splice_two, hs, hf, hm, hd1, hd2, st_put, st_putS, st_putF, zero_st, spl2, t1, htop]
      (try intro _ _ _ _)
      exact ⟨_, rfl, MSt.refl _, tmo, ho, hf⟩
  by_cases c3 : code = 3
  · rw [machN_low (by simp only; omega)]
    have ho := (joinB_ok hs.1 code (testB t.m op (argD xs 0) (argD xs 1))).bd16
    subst c3
    have e : joinB 3 t.s (testB t.m op (argD xs 0) (argD xs 1)) = turnS (goodS 16 t.s.1 t.s.2) (topS (goodS 16 t.s.1 t.s.2) || testB t.m op (argD xs 0) (argD xs 1)) := rfl
    simp only [e] at ho ⊢
    cases htop : topS (goodS 16 t.s.1 t.s.2)
    all_goals
      rw [htop] at ho
      simp only [Bool.false_and, Bool.true_and, Bool.false_or, Bool.true_or] at ho ⊢
      simp (maxSteps := 4000000) -dsimp [-List.all_eq_true, -Array.all_eq_true, -Bool.exists_bool, -Bool.forall_bool, and_assoc, List.zipIdx, Tryz.f18, actTestC, bitPushC, bitPopC, bitTopC, bitTurnC, forkPushC, forkPopC, forkTopC, actDoC, -Sx.splice_two, hs, hf, hm, hd1, hd2, st_put, st_putS, st_putF, zero_st, spl2, t1, htop]
      (try intro _ _ _ _)
      exact ⟨_, rfl, MSt.refl _, tmo, ho, hf⟩
  by_cases c4 : code = 4
  · rw [machN_45 (by simp only; omega)]
    have ho := (joinB_ok hpp.1 (code - 2) (topB t.s)).bd16
    subst c4
    have e : joinB (4 - 2) (popB t.s) (topB t.s) = turnS (goodS 16 (popS (goodS 16 t.s.1 t.s.2)).1 (popS (goodS 16 t.s.1 t.s.2)).2) (topS (goodS 16 (popS (goodS 16 t.s.1 t.s.2)).1 (popS (goodS 16 t.s.1 t.s.2)).2) && topS (goodS 16 t.s.1 t.s.2)) := rfl
    simp only [e] at ho ⊢
    cases htop : topS (goodS 16 (popS (goodS 16 t.s.1 t.s.2)).1 (popS (goodS 16 t.s.1 t.s.2)).2)
    all_goals
      rw [htop] at ho
      simp only [Bool.false_and, Bool.true_and, Bool.false_or, Bool.true_or] at ho ⊢
      simp (maxSteps := 4000000) -dsimp [-List.all_eq_true, -Array.all_eq_true, -Bool.exists_bool, -Bool.forall_bool, and_assoc, List.zipIdx, Tryz.f18, actTestC, bitPushC, bitPopC, bitTopC, bitTurnC, forkPushC, forkPopC, forkTopC, actDoC, -Sx.splice_two, hs, hf, hm, hd1, hd2, st_put, st_putS, st_putF, zero_st, spl2, hp1, hp2, htop]
      (try intro _ _ _ _)
      exact ⟨_, rfl, MSt.refl _, hm, ho, hf⟩
  by_cases c5 : code = 5
  · rw [machN_45 (by simp only; omega)]
    have ho := (joinB_ok hpp.1 (code - 2) (topB t.s)).bd16
    subst c5
    have e : joinB (5 - 2) (popB t.s) (topB t.s) = turnS (goodS 16 (popS (goodS 16 t.s.1 t.s.2)).1 (popS (goodS 16 t.s.1 t.s.2)).2) (topS (goodS 16 (popS (goodS 16 t.s.1 t.s.2)).1 (popS (goodS 16 t.s.1 t.s.2)).2) || topS (goodS 16 t.s.1 t.s.2)) := rfl
    simp only [e] at ho ⊢
    cases htop : topS (goodS 16 (popS (goodS 16 t.s.1 t.s.2)).1 (popS (goodS 16 t.s.1 t.s.2)).2)
    all_goals
      rw [htop] at ho
      simp only [Bool.false_and, Bool.true_and, Bool.false_or, Bool.true_or] at ho ⊢
      simp (maxSteps := 4000000) -dsimp [-List.all_eq_true, -Array.all_eq_true, -Bool.exists_bool, -Bool.forall_bool, and_assoc, List.zipIdx, Tryz.f18, actTestC, bitPushC, bitPopC, bitTopC, bitTurnC, forkPushC, forkPopC, forkTopC, actDoC, -Sx.splice_two, hs, hf, hm, hd1, hd2, st_put, st_putS, st_putF, zero_st, spl2, hp1, hp2, htop]
      (try intro _ _ _ _)
      exact ⟨_, rfl, MSt.refl _, hm, ho, hf⟩
  by_cases c6 : code = 6
  · rw [machN_6 (by simp only; omega)]
    have ho := (turnB_ok hs.1 (!topB t.s)).bd16
    subst c6
    have e : turnB t.s (!topB t.s) = turnS (goodS 16 t.s.1 t.s.2) (!topS (goodS 16 t.s.1 t.s.2)) := rfl
    simp only [e] at ho ⊢
    cases htop : topS (goodS 16 t.s.1 t.s.2)
    all_goals
      rw [htop] at ho
      simp only [Bool.not_false, Bool.not_true] at ho ⊢
      simp (maxSteps := 4000000) -dsimp [-List.all_eq_true, -Array.all_eq_true, -Bool.exists_bool, -Bool.forall_bool, and_assoc, List.zipIdx, Tryz.f18, actTestC, bitPushC, bitPopC, bitTopC, bitTurnC, forkPushC, forkPopC, forkTopC, actDoC, -Sx.splice_two, hs, hf, hm, hd1, hd2, st_put, st_putS, st_putF, zero_st, spl2, htop]
      (try intro _ _ _)
      exact ⟨_, rfl, MSt.refl _, hm, ho, hf⟩
  by_cases c7 : code = 7
  · rw [machN_7 (by simp only; omega)]
    have ho := (pushF_ok hf.1 (topB t.s)).bd8
    subst c7
    simp (maxSteps := 4000000) -dsimp [-List.all_eq_true, -Array.all_eq_true, -Bool.exists_bool, -Bool.forall_bool, and_assoc, List.zipIdx, Tryz.f18, actTestC, bitPushC, bitPopC, bitTopC, bitTurnC, forkPushC, forkPopC, forkTopC, actDoC, -Sx.splice_two, hs, hf, hm, hd1, hd2, st_put, st_putS, st_putF, zero_st, spl2]
    (try intro _ _ _)
    exact ⟨_, rfl, MSt.refl _, hm, hs, ho⟩
  by_cases c8 : code = 8
  · rw [machN_8 (by simp only; omega)]
    have ho := (turnB_ok hs.1 (topF t.f)).bd16
    subst c8
    simp (maxSteps := 4000000) -dsimp [-List.all_eq_true, -Array.all_eq_true, -Bool.exists_bool, -Bool.forall_bool, and_assoc, List.zipIdx, Tryz.f18, actTestC, bitPushC, bitPopC, bitTopC, bitTurnC, forkPushC, forkPopC, forkTopC, actDoC, -Sx.splice_two, hs, hf, hm, hd1, hd2, st_put, st_putS, st_putF, zero_st, spl2]
    (try intro _ _ _)
    exact ⟨_, rfl, MSt.refl _, hm, ho, hf⟩
  by_cases c9 : code = 9
  · rw [machN_9 (by simp only; omega)]
    have ho := (turnB_ok hs.1 (topF t.f)).bd16
    have ho' := (popF_ok hf.1).bd8
    subst c9
    simp (maxSteps := 4000000) -dsimp [-List.all_eq_true, -Array.all_eq_true, -Bool.exists_bool, -Bool.forall_bool, and_assoc, List.zipIdx, Tryz.f18, actTestC, bitPushC, bitPopC, bitTopC, bitTurnC, forkPushC, forkPopC, forkTopC, actDoC, -Sx.splice_two, hs, hf, hm, hd1, hd2, st_put, st_putS, st_putF, zero_st, spl2]
    (try intro _ _ _)
    exact ⟨_, rfl, MSt.refl _, hm, ho, ho'⟩
  by_cases c10 : code = 10
  · rw [machN_10 (by simp only; omega)]
    subst c10
    simp (maxSteps := 4000000) -dsimp [-List.all_eq_true, -Array.all_eq_true, -Bool.exists_bool, -Bool.forall_bool, and_assoc, List.zipIdx, Tryz.f18, actTestC, bitPushC, bitPopC, bitTopC, bitTurnC, forkPushC, forkPopC, forkTopC, actDoC, -Sx.splice_two, hs, hf, hm, hd1, hd2, st_put, st_putS, st_putF, zero_st, spl2]
    (try intro _ _ _)
    refine ⟨(t.m, op, o, cap, xs, topS (goodS 16 t.s.1 t.s.2), dt), rfl, ⟨h.mono (sub_now _ _), hm, hd1, hd2⟩, fun v hv => ?_⟩
    obtain ⟨m', rfl, s1, k1⟩ := hv.ex
    simp (maxSteps := 4000000) -dsimp [-List.all_eq_true, -Array.all_eq_true, -Bool.exists_bool, -Bool.forall_bool, and_assoc, List.zipIdx, Tryz.f18, actTestC, bitPushC, bitPopC, bitTopC, bitTurnC, forkPushC, forkPopC, forkTopC, actDoC, -Sx.splice_two, hs, hf, hm, hd1, hd2, st_put, st_putS, st_putF, zero_st, spl2]
    exact ⟨_, rfl, ⟨s1, rfl, rfl⟩, k1, hs, hf⟩
  by_cases c11 : code = 11
  · rw [machN_11 (by simp only; omega)]
    subst c11
    simp (maxSteps := 4000000) -dsimp [-List.all_eq_true, -Array.all_eq_true, -Bool.exists_bool, -Bool.forall_bool, and_assoc, List.zipIdx, Tryz.f18, actTestC, bitPushC, bitPopC, bitTopC, bitTurnC, forkPushC, forkPopC, forkTopC, actDoC, -Sx.splice_two, hs, hf, hm, hd1, hd2, st_put, st_putS, st_putF, zero_st, spl2]
    (try intro _ _ _)
    exact ⟨_, rfl, MSt.refl _, hm, hpp, hf⟩
  · rw [machN_no (by simp only; omega)]
    simp (maxSteps := 4000000) -dsimp [-List.all_eq_true, -Array.all_eq_true, -Bool.exists_bool, -Bool.forall_bool, and_assoc, List.zipIdx, Tryz.f18, actTestC, bitPushC, bitPopC, bitTopC, bitTurnC, forkPushC, forkPopC, forkTopC, actDoC, -Sx.splice_two, hs, hf, hm, hd1, hd2, st_put, st_putS, st_putF, zero_st, spl2, c1, c2, c3, c4, c5, c6, c7, c8, c9, c10, c11]
    (try intro _ _ _)
    exact ⟨_, rfl, MSt.refl _, hm, hs, hf⟩
def machStepC_S : Rels Tryz.prog 18 where
  ι := ((MS) × (Int) × (Int) × (Option Addr) × (Nat) × (List Dev) × (Int))
  A := fun (i : ((MS) × (Int) × (Int) × (Option Addr) × (Nat) × (List Dev) × (Int))) => match i with | (t, code, op, o, cap, xs, dt) => [.agg (stA t), .agg #[.int .i64 code, .int .i64 op, .slice o xs.length cap], .int .u16 dt]
  pre := fun (i : ((MS) × (Int) × (Int) × (Option Addr) × (Nat) × (List Dev) × (Int))) (F : Facts) => match i with | (t, code, op, o, cap, xs, dt) => RdD F o xs ∧ MSOk t ∧ 0 ≤ dt ∧ dt < 65536
  post := fun (i : ((MS) × (Int) × (Int) × (Option Addr) × (Nat) × (List Dev) × (Int))) => match i with | (t, code, op, o, cap, xs, dt) => fun v => IsSt v (machN t ⟨code, op, xs⟩ dt)
  mono := by
    intro i F G hs h
    first | exact h | exact h.mono hs | exact ⟨h.1.mono hs, h.2⟩ | exact ⟨h.1.mono hs, h.2.1.mono hs, h.2.2⟩ | exact ⟨h.1.mono hs, h.2.1.mono hs⟩
  enter := Tryz.call18
  h := fun i w hp => machStepC_c i.1 i.2.1 i.2.2.1 i.2.2.2.1 i.2.2.2.2.1 i.2.2.2.2.2.1 i.2.2.2.2.2.2 w (by rw [factF_init]; exact hp)
def machStepC : Con Tryz.prog := Con.rel machStepC_S
end Go.Proofs.YtfhnbdlkiemaeaaGreat
namespace Go.Proofs.YtfhnbdlkiemaeaaGreat
open Go Go.Sx
attribute [local simp] Go.Sx.vcsE1 Go.Sx.vcsE2 Go.Sx.vcsE3 Go.Sx.vcsE4 Go.Sx.vcsE5 Go.Sx.vcsE6 Go.Sx.vcsE7 Go.Sx.vcsE8 Go.Sx.vcsE9 Go.Sx.vcsE10 Go.Sx.vcsE11 Go.Sx.vcsE12 Go.Sx.vcsE13 Go.Sx.vcsE14 Go.Sx.vcsE15 Go.Sx.vcsE16 Go.Sx.vcsE17 Go.Sx.vcsE18 Go.Sx.vcsE19 Go.Sx.get Go.Sx.look Go.Sx.put Go.Sx.pureFn Go.Sx.findOrd Go.Sx.unF Go.Sx.dstOk Go.Sx.isFloatT Go.Sx.endVC Go.Sx.resFn Go.Sx.packC Go.Sx.newFn Go.Sx.storeFn Go.Sx.buildFn Go.Sx.known Go.Sx.aggT Go.Sx.cellsC Go.Sx.findCon Go.Sx.allV Go.Sx.partsV Go.Sx.partsC Go.Sx.fillL Go.Sx.exitTo Go.Sx.fAr Go.Sx.eqFn Go.Sx.eqFieldsFn Go.Sx.eqElemsFn Go.Sx.partFn Go.Sx.sliceFn Go.Sx.boundFn Go.Sx.AppV Go.Sx.CopyV Go.Sx.MakeSliceV Go.Sx.NewsV Go.Sx.GrowV Go.Sx.TextV Go.Sx.bytesL Go.Sx.notInt Go.Sx.typeAt Go.Sx.argAt Go.Sx.den Go.undef Go.Value.cells Go.Value.oneCell' Go.Sx.Con.pure Go.Sx.Con.some Go.Sx.Con.read Go.Sx.Con.make Go.Sx.Con.ext Go.Sx.Con.rel Go.Sx.Con.extS Go.Sx.Con.draw Go.Sx.Con.step Go.Sx.C.one Go.Sx.Draws.steps

end Go.Proofs.YtfhnbdlkiemaeaaGreat
