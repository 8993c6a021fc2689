/-
  Contracts: a step of the machine, by the reference.
-/
import Derived.Test.YtfhnbdlkiemaeaaGreatMsmt
import Derived.Test.YtfhnbdlkiemaeaaGreatBvmt
import Derived.Test.YtfhnbdlkiemaeaaGreatDrmt
import Derived.Test.YtfhnbdlkiemaeaaGreatXmt
import Derived.Test.YtfhnbdlkiemaeaaGreatDwmt
set_option linter.unusedVariables false
set_option linter.unusedSimpArgs false
set_option maxRecDepth 100000
set_option maxHeartbeats 4000000
namespace Go.Proofs.YtfhnbdlkiemaeaaGreat
open Go Go.Sx
open List renaming all_eq_true → Y1, zipIdx → Y5
open Bool renaming exists_bool → Y3, forall_bool → Y4
attribute [local simp] Sx.vcsE1 Sx.vcsE2 Sx.vcsE3 Sx.vcsE4 Sx.vcsE5 Sx.vcsE6 Sx.vcsE7 Sx.vcsE8 Sx.vcsE9 Sx.vcsE10 Sx.vcsE11 Sx.vcsE12 Sx.vcsE13 Sx.vcsE14 Sx.vcsE15 Sx.vcsE16 Sx.vcsE17 Sx.vcsE18 Sx.vcsE19 Sx.get Sx.look Sx.put Sx.pureFn Sx.findOrd Sx.unF Sx.dstOk Sx.isFloatT Sx.endVC Sx.resFn Sx.packC Sx.newFn Sx.storeFn Sx.buildFn Sx.known Sx.aggT Sx.cellsC Sx.findCon Sx.allV Sx.partsV Sx.partsC Sx.fillL Sx.exitTo Sx.fAr Sx.eqFn Sx.eqFieldsFn Sx.eqElemsFn Sx.partFn Sx.sliceFn Sx.boundFn Sx.AppV Sx.CopyV Sx.MakeSliceV Sx.NewsV Sx.GrowV Sx.TextV Sx.bytesL Sx.notInt Sx.typeAt Sx.argAt Sx.den Go.undef Go.Value.cells Go.Value.oneCell' Sx.Con.pure Sx.Con.some Sx.Con.read Sx.Con.make Sx.Con.ext Sx.Con.rel Sx.Con.extS Sx.Con.draw Sx.Con.step Sx.C.one Sx.Draws.steps

theorem zero_st : zeroL Tryz.prog 60 = some (stL (bootN zeroM)) := by kernel_rfl
theorem machStepC_c (t : MS) (code op : Int) (o : Option Addr) (cap : Nat) (xs : List Dev) (dt : Int) (w : World) (hpre : RdD (factF ⟨w, [], w, []⟩) o xs ∧ MSOk t ∧ 0 ≤ dt ∧ dt < 65536) : Calls Tryz.prog 18 #[.agg (stA t), .agg #[.int .i64 code, .int .i64 op, .slice o xs.length cap], .int .u16 dt] w fun e w' => ∃ v, e = .returned v ∧ (fun v => IsSt v (machN t ⟨code, op, xs⟩ dt)) v ∧ RowKit.Below w.heap.size w w' := by
  refine plain_of_vcs ⟨[actTestC, bitPushC, bitPopC, bitTopC, bitTurnC, forkPushC, forkPopC, forkTopC, actDoC], []⟩ hmx Tryz.func18 rfl (by kernel_rfl) (args := [.agg (stA t), .agg #[.int .i64 code, .int .i64 op, .slice o xs.length cap], .int .u16 dt]) (by simp [Tryz.ntmps18]) w (fun v => IsSt v (machN t ⟨code, op, xs⟩ dt)) 400 ?_
  obtain ⟨h, ⟨hm, hs, hf⟩, hd1, hd2⟩ := hpre
  have t1 := fun (d : Nat) (mem : List Blk) (K : C → Prop) => actTestC_rw (d := d) (cx := ⟨w, [], w, []⟩) (mem := mem) (K := K) (m := t.m) (op := op) (o := o) (cap := cap) (xs := xs) ⟨h.mono (sub_now _ _), hm⟩
  have tmo := testM_ok (op := op) (a := argD xs 0) (b := argD xs 1) hm
  have hso : ∀ {s : Int × Int}, SOk 16 s → 0 ≤ s.1 ∧ s.1 < 65536 := fun h => h.bd16
  have hpp := (popB_ok hs.1).bd16
  have hp1 := hpp.1
  have hp2 := hpp.2
  unfold popB gS at hp1 hp2
  by_cases c1 : code = 1
  · rw [machN_low (by simp only; omega)]
    have ho := (joinB_ok hs.1 code (testB t.m op (argD xs 0) (argD xs 1))).bd16
    subst c1
    simp (maxSteps := 4000000) -dsimp [-Y1, -Array.all_eq_true, -Y3, -Y4, and_assoc, Y5, Tryz.f18, actTestC, bitPushC, bitPopC, bitTopC, bitTurnC, forkPushC, forkPopC, forkTopC, actDoC, -Sx.splice_two, hs, hf, hm, hd1, hd2, st_put, st_putS, st_putF, zero_st, spl2, t1]
    (try intro _ _ _ _)
    exact ⟨_, rfl, MSt.refl _, tmo, ho, hf⟩
  by_cases c2 : code = 2
  · rw [machN_low (by simp only; omega)]
    have ho := (joinB_ok hs.1 code (testB t.m op (argD xs 0) (argD xs 1))).bd16
    subst c2
    have e : joinB 2 t.s (testB t.m op (argD xs 0) (argD xs 1)) = turnS (goodS 16 t.s.1 t.s.2) (topS (goodS 16 t.s.1 t.s.2) && testB t.m op (argD xs 0) (argD xs 1)) := rfl
    simp only [e] at ho ⊢
    cases htop : topS (goodS 16 t.s.1 t.s.2)
    all_goals
      rw [htop] at ho
      simp only [Bool.false_and, Bool.true_and, Bool.false_or, Bool.true_or] at ho ⊢
      simp (maxSteps := 4000000) -dsimp [-Y1, -Array.all_eq_true, -Y3, -Y4, and_assoc, Y5, Tryz.f18, actTestC, bitPushC, bitPopC, bitTopC, bitTurnC, forkPushC, forkPopC, forkTopC, actDoC, -Sx.splice_two, hs, hf, hm, hd1, hd2, st_put, st_putS, st_putF, zero_st, spl2, t1, htop]
      (try intro _ _ _ _)
      exact ⟨_, rfl, MSt.refl _, tmo, ho, hf⟩
  by_cases c3 : code = 3
  · rw [machN_low (by simp only; omega)]
    have ho := (joinB_ok hs.1 code (testB t.m op (argD xs 0) (argD xs 1))).bd16
    subst c3
    have e : joinB 3 t.s (testB t.m op (argD xs 0) (argD xs 1)) = turnS (goodS 16 t.s.1 t.s.2) (topS (goodS 16 t.s.1 t.s.2) || testB t.m op (argD xs 0) (argD xs 1)) := rfl
    simp only [e] at ho ⊢
    cases htop : topS (goodS 16 t.s.1 t.s.2)
    all_goals
      rw [htop] at ho
      simp only [Bool.false_and, Bool.true_and, Bool.false_or, Bool.true_or] at ho ⊢
      simp (maxSteps := 4000000) -dsimp [-Y1, -Array.all_eq_true, -Y3, -Y4, and_assoc, Y5, Tryz.f18, actTestC, bitPushC, bitPopC, bitTopC, bitTurnC, forkPushC, forkPopC, forkTopC, actDoC, -Sx.splice_two, hs, hf, hm, hd1, hd2, st_put, st_putS, st_putF, zero_st, spl2, t1, htop]
      (try intro _ _ _ _)
      exact ⟨_, rfl, MSt.refl _, tmo, ho, hf⟩
  by_cases c4 : code = 4
  · rw [machN_45 (by simp only; omega)]
    have ho := (joinB_ok hpp.1 (code - 2) (topB t.s)).bd16
    subst c4
    have e : joinB (4 - 2) (popB t.s) (topB t.s) = turnS (goodS 16 (popS (goodS 16 t.s.1 t.s.2)).1 (popS (goodS 16 t.s.1 t.s.2)).2) (topS (goodS 16 (popS (goodS 16 t.s.1 t.s.2)).1 (popS (goodS 16 t.s.1 t.s.2)).2) && topS (goodS 16 t.s.1 t.s.2)) := rfl
    simp only [e] at ho ⊢
    cases htop : topS (goodS 16 (popS (goodS 16 t.s.1 t.s.2)).1 (popS (goodS 16 t.s.1 t.s.2)).2)
    all_goals
      rw [htop] at ho
      simp only [Bool.false_and, Bool.true_and, Bool.false_or, Bool.true_or] at ho ⊢
      simp (maxSteps := 4000000) -dsimp [-Y1, -Array.all_eq_true, -Y3, -Y4, and_assoc, Y5, Tryz.f18, actTestC, bitPushC, bitPopC, bitTopC, bitTurnC, forkPushC, forkPopC, forkTopC, actDoC, -Sx.splice_two, hs, hf, hm, hd1, hd2, st_put, st_putS, st_putF, zero_st, spl2, hp1, hp2, htop]
      (try intro _ _ _ _)
      exact ⟨_, rfl, MSt.refl _, hm, ho, hf⟩
  by_cases c5 : code = 5
  · rw [machN_45 (by simp only; omega)]
    have ho := (joinB_ok hpp.1 (code - 2) (topB t.s)).bd16
    subst c5
    have e : joinB (5 - 2) (popB t.s) (topB t.s) = turnS (goodS 16 (popS (goodS 16 t.s.1 t.s.2)).1 (popS (goodS 16 t.s.1 t.s.2)).2) (topS (goodS 16 (popS (goodS 16 t.s.1 t.s.2)).1 (popS (goodS 16 t.s.1 t.s.2)).2) || topS (goodS 16 t.s.1 t.s.2)) := rfl
    simp only [e] at ho ⊢
    cases htop : topS (goodS 16 (popS (goodS 16 t.s.1 t.s.2)).1 (popS (goodS 16 t.s.1 t.s.2)).2)
    all_goals
      rw [htop] at ho
      simp only [Bool.false_and, Bool.true_and, Bool.false_or, Bool.true_or] at ho ⊢
      simp (maxSteps := 4000000) -dsimp [-Y1, -Array.all_eq_true, -Y3, -Y4, and_assoc, Y5, Tryz.f18, actTestC, bitPushC, bitPopC, bitTopC, bitTurnC, forkPushC, forkPopC, forkTopC, actDoC, -Sx.splice_two, hs, hf, hm, hd1, hd2, st_put, st_putS, st_putF, zero_st, spl2, hp1, hp2, htop]
      (try intro _ _ _ _)
      exact ⟨_, rfl, MSt.refl _, hm, ho, hf⟩
  by_cases c6 : code = 6
  · rw [machN_6 (by simp only; omega)]
    have ho := (turnB_ok hs.1 (!topB t.s)).bd16
    subst c6
    have e : turnB t.s (!topB t.s) = turnS (goodS 16 t.s.1 t.s.2) (!topS (goodS 16 t.s.1 t.s.2)) := rfl
    simp only [e] at ho ⊢
    cases htop : topS (goodS 16 t.s.1 t.s.2)
    all_goals
      rw [htop] at ho
      simp only [Bool.not_false, Bool.not_true] at ho ⊢
      simp (maxSteps := 4000000) -dsimp [-Y1, -Array.all_eq_true, -Y3, -Y4, and_assoc, Y5, Tryz.f18, actTestC, bitPushC, bitPopC, bitTopC, bitTurnC, forkPushC, forkPopC, forkTopC, actDoC, -Sx.splice_two, hs, hf, hm, hd1, hd2, st_put, st_putS, st_putF, zero_st, spl2, htop]
      (try intro _ _ _)
      exact ⟨_, rfl, MSt.refl _, hm, ho, hf⟩
  by_cases c7 : code = 7
  · rw [machN_7 (by simp only; omega)]
    have ho := (pushF_ok hf.1 (topB t.s)).bd8
    subst c7
    simp (maxSteps := 4000000) -dsimp [-Y1, -Array.all_eq_true, -Y3, -Y4, and_assoc, Y5, Tryz.f18, actTestC, bitPushC, bitPopC, bitTopC, bitTurnC, forkPushC, forkPopC, forkTopC, actDoC, -Sx.splice_two, hs, hf, hm, hd1, hd2, st_put, st_putS, st_putF, zero_st, spl2]
    (try intro _ _ _)
    exact ⟨_, rfl, MSt.refl _, hm, hs, ho⟩
  by_cases c8 : code = 8
  · rw [machN_8 (by simp only; omega)]
    have ho := (turnB_ok hs.1 (topF t.f)).bd16
    subst c8
    simp (maxSteps := 4000000) -dsimp [-Y1, -Array.all_eq_true, -Y3, -Y4, and_assoc, Y5, Tryz.f18, actTestC, bitPushC, bitPopC, bitTopC, bitTurnC, forkPushC, forkPopC, forkTopC, actDoC, -Sx.splice_two, hs, hf, hm, hd1, hd2, st_put, st_putS, st_putF, zero_st, spl2]
    (try intro _ _ _)
    exact ⟨_, rfl, MSt.refl _, hm, ho, hf⟩
  by_cases c9 : code = 9
  · rw [machN_9 (by simp only; omega)]
    have ho := (turnB_ok hs.1 (topF t.f)).bd16
    have ho' := (popF_ok hf.1).bd8
    subst c9
    simp (maxSteps := 4000000) -dsimp [-Y1, -Array.all_eq_true, -Y3, -Y4, and_assoc, Y5, Tryz.f18, actTestC, bitPushC, bitPopC, bitTopC, bitTurnC, forkPushC, forkPopC, forkTopC, actDoC, -Sx.splice_two, hs, hf, hm, hd1, hd2, st_put, st_putS, st_putF, zero_st, spl2]
    (try intro _ _ _)
    exact ⟨_, rfl, MSt.refl _, hm, ho, ho'⟩
  by_cases c10 : code = 10
  · rw [machN_10 (by simp only; omega)]
    subst c10
    simp (maxSteps := 4000000) -dsimp [-Y1, -Array.all_eq_true, -Y3, -Y4, and_assoc, Y5, Tryz.f18, actTestC, bitPushC, bitPopC, bitTopC, bitTurnC, forkPushC, forkPopC, forkTopC, actDoC, -Sx.splice_two, hs, hf, hm, hd1, hd2, st_put, st_putS, st_putF, zero_st, spl2]
    (try intro _ _ _)
    refine ⟨(t.m, op, o, cap, xs, topS (goodS 16 t.s.1 t.s.2), dt), rfl, ⟨h.mono (sub_now _ _), hm, hd1, hd2⟩, fun v hv => ?_⟩
    obtain ⟨m', rfl, s1, k1⟩ := hv.ex
    simp (maxSteps := 4000000) -dsimp [-Y1, -Array.all_eq_true, -Y3, -Y4, and_assoc, Y5, Tryz.f18, actTestC, bitPushC, bitPopC, bitTopC, bitTurnC, forkPushC, forkPopC, forkTopC, actDoC, -Sx.splice_two, hs, hf, hm, hd1, hd2, st_put, st_putS, st_putF, zero_st, spl2]
    exact ⟨_, rfl, ⟨s1, rfl, rfl⟩, k1, hs, hf⟩
  by_cases c11 : code = 11
  · rw [machN_11 (by simp only; omega)]
    subst c11
    simp (maxSteps := 4000000) -dsimp [-Y1, -Array.all_eq_true, -Y3, -Y4, and_assoc, Y5, Tryz.f18, actTestC, bitPushC, bitPopC, bitTopC, bitTurnC, forkPushC, forkPopC, forkTopC, actDoC, -Sx.splice_two, hs, hf, hm, hd1, hd2, st_put, st_putS, st_putF, zero_st, spl2]
    (try intro _ _ _)
    exact ⟨_, rfl, MSt.refl _, hm, hpp, hf⟩
  · rw [machN_no (by simp only; omega)]
    simp (maxSteps := 4000000) -dsimp [-Y1, -Array.all_eq_true, -Y3, -Y4, and_assoc, Y5, Tryz.f18, actTestC, bitPushC, bitPopC, bitTopC, bitTurnC, forkPushC, forkPopC, forkTopC, actDoC, -Sx.splice_two, hs, hf, hm, hd1, hd2, st_put, st_putS, st_putF, zero_st, spl2, c1, c2, c3, c4, c5, c6, c7, c8, c9, c10, c11]
    (try intro _ _ _)
    exact ⟨_, rfl, MSt.refl _, hm, hs, hf⟩
def machStepC_S : Rels Tryz.prog 18 where
  ι := ((MS) × (Int) × (Int) × (Option Addr) × (Nat) × (List Dev) × (Int))
  A := fun (i : ((MS) × (Int) × (Int) × (Option Addr) × (Nat) × (List Dev) × (Int))) => match i with | (t, code, op, o, cap, xs, dt) => [.agg (stA t), .agg #[.int .i64 code, .int .i64 op, .slice o xs.length cap], .int .u16 dt]
  pre := fun (i : ((MS) × (Int) × (Int) × (Option Addr) × (Nat) × (List Dev) × (Int))) (F : Facts) => match i with | (t, code, op, o, cap, xs, dt) => RdD F o xs ∧ MSOk t ∧ 0 ≤ dt ∧ dt < 65536
  post := fun (i : ((MS) × (Int) × (Int) × (Option Addr) × (Nat) × (List Dev) × (Int))) => match i with | (t, code, op, o, cap, xs, dt) => fun v => IsSt v (machN t ⟨code, op, xs⟩ dt)
  mono := by
    intro i F G hs h
    first | exact h | exact h.mono hs | exact ⟨h.1.mono hs, h.2⟩ | exact ⟨h.1.mono hs, h.2.1.mono hs, h.2.2⟩ | exact ⟨h.1.mono hs, h.2.1.mono hs⟩
  enter := Tryz.call18
  h := fun i w hp => machStepC_c i.1 i.2.1 i.2.2.1 i.2.2.2.1 i.2.2.2.2.1 i.2.2.2.2.2.1 i.2.2.2.2.2.2 w (by rw [factF_init]; exact hp)
def machStepC : Con Tryz.prog := Con.rel machStepC_S

theorem joinS1 (s : Int × Int) (x : Bool) : joinB 1 s x = pushS 16 (goodS 16 s.1 s.2) x := rfl
theorem joinS2 (s : Int × Int) (x : Bool) : joinB 2 s x = turnS (goodS 16 s.1 s.2) (topS (goodS 16 s.1 s.2) && x) := rfl
theorem joinS3 (s : Int × Int) (x : Bool) {code : Int} (h1 : code ≠ 1) (h2 : code ≠ 2) : joinB code s x = turnS (goodS 16 s.1 s.2) (topS (goodS 16 s.1 s.2) || x) := by
  unfold joinB; rw [if_neg h1, if_neg h2]; rfl
theorem l9CondC_c (t : MS) (code : Int) (x : Bool) (hpre : MSOk t) (w : World) : Calls Tryz.prog 81 #[.agg (stA t), .int .i64 code, .bool x] w fun e w' => e = .returned (.agg (stA ⟨t.m, joinB code t.s x, t.f⟩)) ∧ RowKit.Below w.heap.size w w' := by
  refine (plain_of_vcs ⟨[sBitPushC, sBitTurnC, sBitTopC], []⟩ hmx Tryz.func81 rfl (by kernel_rfl) (args := [.agg (stA t), .int .i64 code, .bool x]) (by simp [Tryz.ntmps81]) w (· = .agg (stA ⟨t.m, joinB code t.s x, t.f⟩)) 400 ?_).mono fun e w' ⟨v, h1, h2, h3⟩ => ⟨h2 ▸ h1, h3⟩
  obtain ⟨hm, hs, hf⟩ := hpre
  by_cases c1 : code = 1
  · subst c1
    rw [joinS1]
    simp (maxSteps := 4000000) -dsimp [-Y1, -Array.all_eq_true, -Y3, -Y4, and_assoc, Y5, Tryz.f81, sBitPushC, sBitTurnC, sBitTopC, -Sx.splice_two, hs, hf, hm, st_put, st_putS, st_putF, zero_st, spl2]
  by_cases c2 : code = 2
  · subst c2
    rw [joinS2]
    cases htop : topS (goodS 16 t.s.1 t.s.2)
    · simp (maxSteps := 4000000) -dsimp [-Y1, -Array.all_eq_true, -Y3, -Y4, and_assoc, Y5, Tryz.f81, sBitPushC, sBitTurnC, sBitTopC, -Sx.splice_two, hs, hf, hm, st_put, st_putS, st_putF, zero_st, spl2, htop]
    · simp (maxSteps := 4000000) -dsimp [-Y1, -Array.all_eq_true, -Y3, -Y4, and_assoc, Y5, Tryz.f81, sBitPushC, sBitTurnC, sBitTopC, -Sx.splice_two, hs, hf, hm, st_put, st_putS, st_putF, zero_st, spl2, htop]
  · rw [joinS3 _ _ c1 c2]
    cases htop : topS (goodS 16 t.s.1 t.s.2)
    · simp (maxSteps := 4000000) -dsimp [-Y1, -Array.all_eq_true, -Y3, -Y4, and_assoc, Y5, Tryz.f81, sBitPushC, sBitTurnC, sBitTopC, -Sx.splice_two, hs, hf, hm, st_put, st_putS, st_putF, zero_st, spl2, htop, c1, c2]
    · simp (maxSteps := 4000000) -dsimp [-Y1, -Array.all_eq_true, -Y3, -Y4, and_assoc, Y5, Tryz.f81, sBitPushC, sBitTurnC, sBitTopC, -Sx.splice_two, hs, hf, hm, st_put, st_putS, st_putF, zero_st, spl2, htop, c1, c2]
def l9CondC : Con Tryz.prog := Con.pure 81 Tryz.call81 (fun (i : ((MS) × (Int) × (Bool))) => match i with | (t, code, x) => [.agg (stA t), .int .i64 code, .bool x]) (fun (i : ((MS) × (Int) × (Bool))) => match i with | (t, code, x) => MSOk t) (fun (i : ((MS) × (Int) × (Bool))) => match i with | (t, code, x) => .agg (stA ⟨t.m, joinB code t.s x, t.f⟩)) fun i w hp => l9CondC_c i.1 i.2.1 i.2.2 hp w
theorem sMachStepC_c (t : MS) (code op : Int) (o : Option Addr) (cap : Nat) (xs : List Dev) (dt : Int) (w : World) (hpre : RdD (factF ⟨w, [], w, []⟩) o xs ∧ MSOk t ∧ 0 ≤ dt ∧ dt < 65536) : Calls Tryz.prog 29 #[.agg (stA t), .agg #[.int .i64 code, .int .i64 op, .slice o xs.length cap], .int .u16 dt] w fun e w' => ∃ v, e = .returned v ∧ (fun v => IsSt v (machN t ⟨code, op, xs⟩ dt)) v ∧ RowKit.Below w.heap.size w w' := by
  refine plain_of_vcs ⟨[sActTestC, l9CondC, sBitPopC, sBitTopC, sBitTurnC, sForkPushC, sForkPopC, sForkTopC, sActDoC], []⟩ hmx Tryz.func29 rfl (by kernel_rfl) (args := [.agg (stA t), .agg #[.int .i64 code, .int .i64 op, .slice o xs.length cap], .int .u16 dt]) (by simp [Tryz.ntmps29]) w (fun v => IsSt v (machN t ⟨code, op, xs⟩ dt)) 400 ?_
  obtain ⟨h, ⟨hm, hs, hf⟩, hd1, hd2⟩ := hpre
  have t1 := fun (d : Nat) (mem : List Blk) (K : C → Prop) => sActTestC_rw (d := d) (cx := ⟨w, [], w, []⟩) (mem := mem) (K := K) (m := t.m) (op := op) (o := o) (cap := cap) (xs := xs) ⟨h.mono (sub_now _ _), hm⟩
  have tmo := testM_ok (op := op) (a := argD xs 0) (b := argD xs 1) hm
  have hpp := (popB_ok hs.1).bd16
  by_cases c3 : 1 ≤ code ∧ code ≤ 3
  · rw [machN_low (by simp only; omega)]
    have ho := (joinB_ok hs.1 code (testB t.m op (argD xs 0) (argD xs 1))).bd16
    have hq : MSOk ⟨testM t.m op (argD xs 0) (argD xs 1), t.s, t.f⟩ := ⟨tmo, hs, hf⟩
    have g1 := c3.1
    have g2 := c3.2
    simp (maxSteps := 4000000) -dsimp [-Y1, -Array.all_eq_true, -Y3, -Y4, and_assoc, Y5, Tryz.f29, sActTestC, l9CondC, sBitPopC, sBitTopC, sBitTurnC, sForkPushC, sForkPopC, sForkTopC, sActDoC, -Sx.splice_two, hs, hf, hm, hd1, hd2, st_put, st_putS, st_putF, zero_st, spl2, g1, g2, t1, hq]
    (try intro _ _ _ _)
    first | exact ⟨_, rfl, MSt.refl _, tmo, ho, hf⟩ | exact ⟨_, rfl, hq, _, rfl, MSt.refl _, tmo, ho, hf⟩
  have n3 : code < 1 ∨ 3 < code := by omega
  have d3 : 1 ≤ code → ¬ code ≤ 3 := by omega
  by_cases c1 : 1 ≤ code
  · have d3' := d3 c1
    by_cases c4 : code = 4
    · rw [machN_45 (by simp only; omega)]
      have ho := (joinB_ok hpp.1 (code - 2) (topB t.s)).bd16
      subst c4
      have hq : MSOk ⟨t.m, ((popS (goodS 16 t.s.1 t.s.2)).1, (popS (goodS 16 t.s.1 t.s.2)).2), t.f⟩ := ⟨hm, hpp, hf⟩
      have w1 : IntKind.i64.wrap (4 - 4) = 4 - 4 := rfl
      simp (maxSteps := 4000000) -dsimp [-Y1, -Array.all_eq_true, -Y3, -Y4, and_assoc, Y5, Tryz.f29, sActTestC, l9CondC, sBitPopC, sBitTopC, sBitTurnC, sForkPushC, sForkPopC, sForkTopC, sActDoC, -Sx.splice_two, hs, hf, hm, hd1, hd2, st_put, st_putS, st_putF, zero_st, spl2, hq]
      (try intro _ _ _ _)
      first | exact ⟨_, rfl, MSt.refl _, hm, ho, hf⟩ | exact ⟨_, rfl, hq, _, rfl, MSt.refl _, hm, ho, hf⟩
    by_cases c5 : code = 5
    · rw [machN_45 (by simp only; omega)]
      have ho := (joinB_ok hpp.1 (code - 2) (topB t.s)).bd16
      subst c5
      have hq : MSOk ⟨t.m, ((popS (goodS 16 t.s.1 t.s.2)).1, (popS (goodS 16 t.s.1 t.s.2)).2), t.f⟩ := ⟨hm, hpp, hf⟩
      have w1 : IntKind.i64.wrap (5 - 4) = 5 - 4 := rfl
      simp (maxSteps := 4000000) -dsimp [-Y1, -Array.all_eq_true, -Y3, -Y4, and_assoc, Y5, Tryz.f29, sActTestC, l9CondC, sBitPopC, sBitTopC, sBitTurnC, sForkPushC, sForkPopC, sForkTopC, sActDoC, -Sx.splice_two, hs, hf, hm, hd1, hd2, st_put, st_putS, st_putF, zero_st, spl2, hq]
      (try intro _ _ _ _)
      first | exact ⟨_, rfl, MSt.refl _, hm, ho, hf⟩ | exact ⟨_, rfl, hq, _, rfl, MSt.refl _, hm, ho, hf⟩
    by_cases c6 : code = 6
    · rw [machN_6 (by simp only; omega)]
      have ho := (turnB_ok hs.1 (!topB t.s)).bd16
      subst c6
      have e : turnB t.s (!topB t.s) = turnS (goodS 16 t.s.1 t.s.2) (!topS (goodS 16 t.s.1 t.s.2)) := rfl
      simp only [e] at ho ⊢
      cases htop : topS (goodS 16 t.s.1 t.s.2)
      all_goals
        rw [htop] at ho
        simp only [Bool.not_false, Bool.not_true] at ho ⊢
        simp (maxSteps := 4000000) -dsimp [-Y1, -Array.all_eq_true, -Y3, -Y4, and_assoc, Y5, Tryz.f29, sActTestC, l9CondC, sBitPopC, sBitTopC, sBitTurnC, sForkPushC, sForkPopC, sForkTopC, sActDoC, -Sx.splice_two, hs, hf, hm, hd1, hd2, st_put, st_putS, st_putF, zero_st, spl2, htop]
        (try intro _ _ _)
        exact ⟨_, rfl, MSt.refl _, hm, ho, hf⟩
    by_cases c7 : code = 7
    · rw [machN_7 (by simp only; omega)]
      have ho := (pushF_ok hf.1 (topB t.s)).bd8
      subst c7
      simp (maxSteps := 4000000) -dsimp [-Y1, -Array.all_eq_true, -Y3, -Y4, and_assoc, Y5, Tryz.f29, sActTestC, l9CondC, sBitPopC, sBitTopC, sBitTurnC, sForkPushC, sForkPopC, sForkTopC, sActDoC, -Sx.splice_two, hs, hf, hm, hd1, hd2, st_put, st_putS, st_putF, zero_st, spl2]
      (try intro _ _ _)
      exact ⟨_, rfl, MSt.refl _, hm, hs, ho⟩
    by_cases c8 : code = 8
    · rw [machN_8 (by simp only; omega)]
      have ho := (turnB_ok hs.1 (topF t.f)).bd16
      subst c8
      simp (maxSteps := 4000000) -dsimp [-Y1, -Array.all_eq_true, -Y3, -Y4, and_assoc, Y5, Tryz.f29, sActTestC, l9CondC, sBitPopC, sBitTopC, sBitTurnC, sForkPushC, sForkPopC, sForkTopC, sActDoC, -Sx.splice_two, hs, hf, hm, hd1, hd2, st_put, st_putS, st_putF, zero_st, spl2]
      (try intro _ _ _)
      exact ⟨_, rfl, MSt.refl _, hm, ho, hf⟩
    by_cases c9 : code = 9
    · rw [machN_9 (by simp only; omega)]
      have ho := (turnB_ok hs.1 (topF t.f)).bd16
      have ho' := (popF_ok hf.1).bd8
      subst c9
      simp (maxSteps := 4000000) -dsimp [-Y1, -Array.all_eq_true, -Y3, -Y4, and_assoc, Y5, Tryz.f29, sActTestC, l9CondC, sBitPopC, sBitTopC, sBitTurnC, sForkPushC, sForkPopC, sForkTopC, sActDoC, -Sx.splice_two, hs, hf, hm, hd1, hd2, st_put, st_putS, st_putF, zero_st, spl2]
      (try intro _ _ _)
      exact ⟨_, rfl, MSt.refl _, hm, ho, ho'⟩
    by_cases c10 : code = 10
    · rw [machN_10 (by simp only; omega)]
      subst c10
      simp (maxSteps := 4000000) -dsimp [-Y1, -Array.all_eq_true, -Y3, -Y4, and_assoc, Y5, Tryz.f29, sActTestC, l9CondC, sBitPopC, sBitTopC, sBitTurnC, sForkPushC, sForkPopC, sForkTopC, sActDoC, -Sx.splice_two, hs, hf, hm, hd1, hd2, st_put, st_putS, st_putF, zero_st, spl2]
      (try intro _ _ _)
      refine ⟨(t.m, op, o, cap, xs, topS (goodS 16 t.s.1 t.s.2), dt), rfl, ⟨h.mono (sub_now _ _), hm, hd1, hd2⟩, fun v hv => ?_⟩
      obtain ⟨m', rfl, s1, k1⟩ := hv.ex
      simp (maxSteps := 4000000) -dsimp [-Y1, -Array.all_eq_true, -Y3, -Y4, and_assoc, Y5, Tryz.f29, sActTestC, l9CondC, sBitPopC, sBitTopC, sBitTurnC, sForkPushC, sForkPopC, sForkTopC, sActDoC, -Sx.splice_two, hs, hf, hm, hd1, hd2, st_put, st_putS, st_putF, zero_st, spl2]
      exact ⟨_, rfl, ⟨s1, rfl, rfl⟩, k1, hs, hf⟩
    by_cases c11 : code = 11
    · rw [machN_11 (by simp only; omega)]
      subst c11
      simp (maxSteps := 4000000) -dsimp [-Y1, -Array.all_eq_true, -Y3, -Y4, and_assoc, Y5, Tryz.f29, sActTestC, l9CondC, sBitPopC, sBitTopC, sBitTurnC, sForkPushC, sForkPopC, sForkTopC, sActDoC, -Sx.splice_two, hs, hf, hm, hd1, hd2, st_put, st_putS, st_putF, zero_st, spl2]
      (try intro _ _ _)
      exact ⟨_, rfl, MSt.refl _, hm, hpp, hf⟩
    · rw [machN_no (by simp only; omega)]
      simp (maxSteps := 4000000) -dsimp [-Y1, -Array.all_eq_true, -Y3, -Y4, and_assoc, Y5, Tryz.f29, sActTestC, l9CondC, sBitPopC, sBitTopC, sBitTurnC, sForkPushC, sForkPopC, sForkTopC, sActDoC, -Sx.splice_two, hs, hf, hm, hd1, hd2, st_put, st_putS, st_putF, zero_st, spl2, c1, d3', c4, c5, c6, c7, c8, c9, c10, c11]
      (try intro _ _ _)
      exact ⟨_, rfl, MSt.refl _, hm, hs, hf⟩
  · rw [machN_no (by simp only; omega)]
    have e4 : ¬ code = 4 ∧ ¬ code = 5 ∧ ¬ code = 6 ∧ ¬ code = 7 ∧ ¬ code = 8 ∧ ¬ code = 9 ∧ ¬ code = 10 ∧ ¬ code = 11 := by omega
    simp (maxSteps := 4000000) -dsimp [-Y1, -Array.all_eq_true, -Y3, -Y4, and_assoc, Y5, Tryz.f29, sActTestC, l9CondC, sBitPopC, sBitTopC, sBitTurnC, sForkPushC, sForkPopC, sForkTopC, sActDoC, -Sx.splice_two, hs, hf, hm, hd1, hd2, st_put, st_putS, st_putF, zero_st, spl2, c1, e4]
    (try intro _ _ _)
    exact ⟨_, rfl, MSt.refl _, hm, hs, hf⟩
def sMachStepC_S : Rels Tryz.prog 29 where
  ι := ((MS) × (Int) × (Int) × (Option Addr) × (Nat) × (List Dev) × (Int))
  A := fun (i : ((MS) × (Int) × (Int) × (Option Addr) × (Nat) × (List Dev) × (Int))) => match i with | (t, code, op, o, cap, xs, dt) => [.agg (stA t), .agg #[.int .i64 code, .int .i64 op, .slice o xs.length cap], .int .u16 dt]
  pre := fun (i : ((MS) × (Int) × (Int) × (Option Addr) × (Nat) × (List Dev) × (Int))) (F : Facts) => match i with | (t, code, op, o, cap, xs, dt) => RdD F o xs ∧ MSOk t ∧ 0 ≤ dt ∧ dt < 65536
  post := fun (i : ((MS) × (Int) × (Int) × (Option Addr) × (Nat) × (List Dev) × (Int))) => match i with | (t, code, op, o, cap, xs, dt) => fun v => IsSt v (machN t ⟨code, op, xs⟩ dt)
  mono := by
    intro i F G hs h
    first | exact h | exact h.mono hs | exact ⟨h.1.mono hs, h.2⟩ | exact ⟨h.1.mono hs, h.2.1.mono hs, h.2.2⟩ | exact ⟨h.1.mono hs, h.2.1.mono hs⟩
  enter := Tryz.call29
  h := fun i w hp => sMachStepC_c i.1 i.2.1 i.2.2.1 i.2.2.2.1 i.2.2.2.2.1 i.2.2.2.2.2.1 i.2.2.2.2.2.2 w (by rw [factF_init]; exact hp)
def sMachStepC : Con Tryz.prog := Con.rel sMachStepC_S
end Go.Proofs.YtfhnbdlkiemaeaaGreat
