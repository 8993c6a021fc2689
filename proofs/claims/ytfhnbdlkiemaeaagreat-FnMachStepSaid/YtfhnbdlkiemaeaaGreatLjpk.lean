/-
  The law of a machine's step, walked.
-/
import Derived.Test.YtfhnbdlkiemaeaaGreatGupk
import Derived.Test.YtfhnbdlkiemaeaaGreatMypk
import Derived.Test.YtfhnbdlkiemaeaaGreatRtpk
set_option linter.unusedVariables false
set_option linter.unusedSimpArgs false
set_option maxRecDepth 100000
set_option maxHeartbeats 4000000
namespace Go.Proofs.YtfhnbdlkiemaeaaGreat
open Go Go.Sx
attribute [local simp] Go.Sx.vcsE1 Go.Sx.vcsE2 Go.Sx.vcsE3 Go.Sx.vcsE4 Go.Sx.vcsE5 Go.Sx.vcsE6 Go.Sx.vcsE7 Go.Sx.vcsE8 Go.Sx.vcsE9 Go.Sx.vcsE10 Go.Sx.vcsE11 Go.Sx.vcsE12 Go.Sx.vcsE13 Go.Sx.vcsE14 Go.Sx.vcsE15 Go.Sx.vcsE16 Go.Sx.vcsE17 Go.Sx.vcsE18 Go.Sx.vcsE19 Go.Sx.get Go.Sx.look Go.Sx.put Go.Sx.pureFn Go.Sx.findOrd Go.Sx.unF Go.Sx.dstOk Go.Sx.isFloatT Go.Sx.endVC Go.Sx.resFn Go.Sx.packC Go.Sx.newFn Go.Sx.storeFn Go.Sx.buildFn Go.Sx.known Go.Sx.aggT Go.Sx.cellsC Go.Sx.findCon Go.Sx.allV Go.Sx.partsV Go.Sx.partsC Go.Sx.fillL Go.Sx.exitTo Go.Sx.fAr Go.Sx.eqFn Go.Sx.eqFieldsFn Go.Sx.eqElemsFn Go.Sx.partFn Go.Sx.sliceFn Go.Sx.boundFn Go.Sx.AppV Go.Sx.CopyV Go.Sx.MakeSliceV Go.Sx.NewsV Go.Sx.GrowV Go.Sx.TextV Go.Sx.bytesL Go.Sx.notInt Go.Sx.typeAt Go.Sx.argAt Go.Sx.den Go.undef Go.Value.cells Go.Value.oneCell' Go.Sx.Con.pure Go.Sx.Con.some Go.Sx.Con.read Go.Sx.Con.make Go.Sx.Con.ext Go.Sx.Con.rel Go.Sx.Con.extS Go.Sx.Con.draw Go.Sx.Con.step Go.Sx.C.one Go.Sx.Draws.steps

theorem spl3j (a b c d e f : C) : splice [a, b, c] 0 [d, e, f] = [d, e, f] := rfl
theorem lawMStepC_c (o : Option Addr) (cap : Nat) (bs : List Int) (w : World) (hpre : RdB (factF ⟨w, [], w, []⟩) o bs ∧ ((∀ b ∈ bs, 0 ≤ b ∧ b < 256) ∧ bs.length ≤ cap ∧ cap ≤ maxLen)) : Calls Tryz.prog 6 #[.slice o bs.length cap] w fun e w' => e = .returned (.bool true) ∧ RowKit.Below w.heap.size w w' := by
  refine (plain_of_vcs ⟨[drawMachStepC, machStepC, sMachStepC, sMemSameC, memSameC, bitTopC, sForkOkC], []⟩ hmx Tryz.func6 rfl (by kernel_rfl) (args := [.slice o bs.length cap]) (by simp [Tryz.ntmps6]) w (· = .bool true) 400 ?_).mono fun e w' ⟨v, h1, h2, h3⟩ => ⟨h2 ▸ h1, h3⟩
  obtain ⟨h, hb⟩ := hpre
  by_cases hs : bs.length ≤ 1048576
  · have hs1 : ¬ (1048576 : Int) < bs.length := by omega
    simp (maxSteps := 4000000) -dsimp [-List.all_eq_true, -Array.all_eq_true, -Bool.exists_bool, -Bool.forall_bool, and_assoc, List.zipIdx, Tryz.f6, drawMachStepC, machStepC, sMachStepC, sMemSameC, memSameC, bitTopC, sForkOkC, hs1, Con.gen]
    refine drawMachStepC_at ⟨h, hb⟩ ?_
    rintro cx1 c mem1 ⟨hle1, rfl, t, code, op, o1, cap1, xs, dt, rfl, hok, hxd, hxl, d0, d1⟩
    have hw := hle1.w0
    have hg := hle1.g0
    simp (maxSteps := 4000000) -dsimp [-List.all_eq_true, -Array.all_eq_true, -Bool.exists_bool, -Bool.forall_bool, and_assoc, List.zipIdx, Tryz.f6, drawMachStepC, machStepC, sMachStepC, sMemSameC, memSameC, bitTopC, sForkOkC, -Sx.splice_two, spl3j, spl2, zero_st', Con.gen]
    intro b0 b1
    refine ⟨(t, code, op, o1, cap1, xs, dt), rfl, ⟨hxd.mono (sub_now _ _), hok, d0, d1⟩, fun v hv => ?_⟩
    obtain ⟨⟨m1, s1, f1⟩, rfl, ⟨e1m, e1s, e1f⟩, k1⟩ := hv.ex
    simp only at e1m e1s e1f
    simp (maxSteps := 4000000) -dsimp [-List.all_eq_true, -Array.all_eq_true, -Bool.exists_bool, -Bool.forall_bool, and_assoc, List.zipIdx, Tryz.f6, drawMachStepC, machStepC, sMachStepC, sMemSameC, memSameC, bitTopC, sForkOkC, -Sx.splice_two, spl3j, spl2, zero_st']
    intro b2
    refine ⟨(t, code, op, o1, cap1, xs, dt), rfl, ⟨hxd.mono (sub_now _ _), hok, d0, d1⟩, fun v hv => ?_⟩
    obtain ⟨⟨m2, s2, f2⟩, rfl, ⟨e2m, e2s, e2f⟩, k2⟩ := hv.ex
    simp only at e2m e2s e2f
    obtain rfl : s2 = s1 := e2s.trans e1s.symm
    obtain rfl : f2 = f1 := e2f.trans e1f.symm
    have hms : msB m1 m2 = true := msB_iff.2 (e1m.trans e2m.symm)
    have hcode : ¬ (code < 1 ∨ 3 < code) ∨ code = 10 ∨ msB m1 t.m = true := by
      by_cases h1 : code < 1 ∨ 3 < code
      · by_cases h2 : code = 10
        · exact Or.inr (Or.inl h2)
        · refine Or.inr (Or.inr (msB_iff.2 ?_))
          have := e1m
          rwa [mach_mem (by simpa using h1) (by simpa using h2)] at this
      · exact Or.inl h1
    have k1m := k1.m
    have k2m := k2.m
    simp only at k1m k2m
    clear e1s e1f e2s e2f
    have hc' : (1 ≤ code ∧ code ≤ 3) ∨ (code = 10) ∨ (code < 1 ∧ code ≠ 10 ∧ msB m1 t.m = true) ∨ (1 ≤ code ∧ 3 < code ∧ code ≠ 10 ∧ msB m1 t.m = true) := by
      rcases hcode with h | h | h
      · left; omega
      · right; left; exact h
      · by_cases c10 : code = 10
        · right; left; exact c10
        by_cases c1 : code < 1
        · right; right; left; exact ⟨c1, c10, h⟩
        by_cases c2 : 3 < code
        · right; right; right; exact ⟨by omega, c2, c10, h⟩
        left; omega
    rcases hc' with ⟨g1, g2⟩ | g1 | ⟨g1, g2, g3⟩ | ⟨g1, g2, g3, g4⟩
    · have g3 : ¬ code < 1 := by omega
      have g4 : ¬ 3 < code := by omega
      simp (maxSteps := 4000000) -dsimp [-List.all_eq_true, -Array.all_eq_true, -Bool.exists_bool, -Bool.forall_bool, and_assoc, List.zipIdx, Tryz.f6, drawMachStepC, machStepC, sMachStepC, sMemSameC, memSameC, bitTopC, sForkOkC, -Sx.splice_two, spl3j, spl2, zero_st', hms, k1m, k2m, g3, g4]
      intro b3
      refine ⟨(t, 7, 0, none, 0, [], dt), rfl, ⟨RdO.nil _ _ _, hok, d0, d1⟩, fun v hv => ?_⟩
      obtain ⟨⟨mk, sk, fk⟩, rfl, ⟨-, eks, ekf⟩, kk⟩ := hv.ex
      rw [machN_7 rfl] at eks ekf
      simp only at eks ekf
      obtain rfl : sk = t.s := eks
      simp (maxSteps := 4000000) -dsimp [-List.all_eq_true, -Array.all_eq_true, -Bool.exists_bool, -Bool.forall_bool, and_assoc, List.zipIdx, Tryz.f6, drawMachStepC, machStepC, sMachStepC, sMemSameC, memSameC, bitTopC, sForkOkC, -Sx.splice_two, spl3j, spl2, zero_st']
      intro b4
      refine ⟨(⟨mk, t.s, fk⟩, 6, 0, none, 0, [], dt), rfl, ⟨RdO.nil _ _ _, kk, d0, d1⟩, fun v hv => ?_⟩
      obtain ⟨⟨mu, su, fu⟩, rfl, ⟨-, eus, euf⟩, ku⟩ := hv.ex
      rw [machN_6 rfl] at eus euf
      simp only at eus euf
      obtain rfl : fu = fk := euf
      simp (maxSteps := 4000000) -dsimp [-List.all_eq_true, -Array.all_eq_true, -Bool.exists_bool, -Bool.forall_bool, and_assoc, List.zipIdx, Tryz.f6, drawMachStepC, machStepC, sMachStepC, sMemSameC, memSameC, bitTopC, sForkOkC, -Sx.splice_two, spl3j, spl2, zero_st']
      intro b5
      refine ⟨(⟨mu, su, fu⟩, 8, 0, none, 0, [], dt), rfl, ⟨RdO.nil _ _ _, ku, d0, d1⟩, fun v hv => ?_⟩
      obtain ⟨⟨mr, sr, fr⟩, rfl, ⟨-, ers, erf⟩, kr⟩ := hv.ex
      rw [machN_8 rfl] at ers erf
      simp only at ers erf
      obtain rfl : fr = fu := erf
      simp (maxSteps := 4000000) -dsimp [-List.all_eq_true, -Array.all_eq_true, -Bool.exists_bool, -Bool.forall_bool, and_assoc, List.zipIdx, Tryz.f6, drawMachStepC, machStepC, sMachStepC, sMemSameC, memSameC, bitTopC, sForkOkC, -Sx.splice_two, spl3j, spl2, zero_st']
      intro b6
      refine ⟨(⟨mr, sr, fr⟩, 9, 0, none, 0, [], dt), rfl, ⟨RdO.nil _ _ _, kr, d0, d1⟩, fun v hv => ?_⟩
      obtain ⟨⟨mb, sb, fb⟩, rfl, ⟨-, ebs, ebf⟩, kb⟩ := hv.ex
      rw [machN_9 rfl] at ebs ebf
      simp only at ebs ebf
      have hkb := kept_back hok.s.1 hok.f.1
      simp only at hkb
      rw [← ekf, ← eus, ← ers, ← ebs, ← ebf] at hkb
      obtain ⟨q1, q2, q3⟩ := hkb
      unfold topB gS at q1 q2
      have w1 := hok.s
      have w2 := hok.f
      have w3 := kr.s
      have w4 := kb.s
      simp only at w3 w4
      simp (maxSteps := 4000000) -dsimp [-List.all_eq_true, -Array.all_eq_true, -Bool.exists_bool, -Bool.forall_bool, and_assoc, List.zipIdx, Tryz.f6, drawMachStepC, machStepC, sMachStepC, sMemSameC, memSameC, bitTopC, sForkOkC, -Sx.splice_two, spl3j, spl2, zero_st', w1, w2, w3, w4, q1, q2]
      exact ⟨fun a => ⟨fun b => ⟨hw, hg, by rw [q3 a b], by rw [q3 a b]⟩, fun _ => ⟨hw, hg⟩⟩, fun _ => ⟨hw, hg⟩⟩
    · simp (maxSteps := 4000000) -dsimp [-List.all_eq_true, -Array.all_eq_true, -Bool.exists_bool, -Bool.forall_bool, and_assoc, List.zipIdx, Tryz.f6, drawMachStepC, machStepC, sMachStepC, sMemSameC, memSameC, bitTopC, sForkOkC, -Sx.splice_two, spl3j, spl2, zero_st', hms, k1m, k2m, g1]
      intro b3
      refine ⟨(t, 7, 0, none, 0, [], dt), rfl, ⟨RdO.nil _ _ _, hok, d0, d1⟩, fun v hv => ?_⟩
      obtain ⟨⟨mk, sk, fk⟩, rfl, ⟨-, eks, ekf⟩, kk⟩ := hv.ex
      rw [machN_7 rfl] at eks ekf
      simp only at eks ekf
      obtain rfl : sk = t.s := eks
      simp (maxSteps := 4000000) -dsimp [-List.all_eq_true, -Array.all_eq_true, -Bool.exists_bool, -Bool.forall_bool, and_assoc, List.zipIdx, Tryz.f6, drawMachStepC, machStepC, sMachStepC, sMemSameC, memSameC, bitTopC, sForkOkC, -Sx.splice_two, spl3j, spl2, zero_st']
      intro b4
      refine ⟨(⟨mk, t.s, fk⟩, 6, 0, none, 0, [], dt), rfl, ⟨RdO.nil _ _ _, kk, d0, d1⟩, fun v hv => ?_⟩
      obtain ⟨⟨mu, su, fu⟩, rfl, ⟨-, eus, euf⟩, ku⟩ := hv.ex
      rw [machN_6 rfl] at eus euf
      simp only at eus euf
      obtain rfl : fu = fk := euf
      simp (maxSteps := 4000000) -dsimp [-List.all_eq_true, -Array.all_eq_true, -Bool.exists_bool, -Bool.forall_bool, and_assoc, List.zipIdx, Tryz.f6, drawMachStepC, machStepC, sMachStepC, sMemSameC, memSameC, bitTopC, sForkOkC, -Sx.splice_two, spl3j, spl2, zero_st']
      intro b5
      refine ⟨(⟨mu, su, fu⟩, 8, 0, none, 0, [], dt), rfl, ⟨RdO.nil _ _ _, ku, d0, d1⟩, fun v hv => ?_⟩
      obtain ⟨⟨mr, sr, fr⟩, rfl, ⟨-, ers, erf⟩, kr⟩ := hv.ex
      rw [machN_8 rfl] at ers erf
      simp only at ers erf
      obtain rfl : fr = fu := erf
      simp (maxSteps := 4000000) -dsimp [-List.all_eq_true, -Array.all_eq_true, -Bool.exists_bool, -Bool.forall_bool, and_assoc, List.zipIdx, Tryz.f6, drawMachStepC, machStepC, sMachStepC, sMemSameC, memSameC, bitTopC, sForkOkC, -Sx.splice_two, spl3j, spl2, zero_st']
      intro b6
      refine ⟨(⟨mr, sr, fr⟩, 9, 0, none, 0, [], dt), rfl, ⟨RdO.nil _ _ _, kr, d0, d1⟩, fun v hv => ?_⟩
      obtain ⟨⟨mb, sb, fb⟩, rfl, ⟨-, ebs, ebf⟩, kb⟩ := hv.ex
      rw [machN_9 rfl] at ebs ebf
      simp only at ebs ebf
      have hkb := kept_back hok.s.1 hok.f.1
      simp only at hkb
      rw [← ekf, ← eus, ← ers, ← ebs, ← ebf] at hkb
      obtain ⟨q1, q2, q3⟩ := hkb
      unfold topB gS at q1 q2
      have w1 := hok.s
      have w2 := hok.f
      have w3 := kr.s
      have w4 := kb.s
      simp only at w3 w4
      simp (maxSteps := 4000000) -dsimp [-List.all_eq_true, -Array.all_eq_true, -Bool.exists_bool, -Bool.forall_bool, and_assoc, List.zipIdx, Tryz.f6, drawMachStepC, machStepC, sMachStepC, sMemSameC, memSameC, bitTopC, sForkOkC, -Sx.splice_two, spl3j, spl2, zero_st', w1, w2, w3, w4, q1, q2]
      exact ⟨fun a => ⟨fun b => ⟨hw, hg, by rw [q3 a b], by rw [q3 a b]⟩, fun _ => ⟨hw, hg⟩⟩, fun _ => ⟨hw, hg⟩⟩
    · simp (maxSteps := 4000000) -dsimp [-List.all_eq_true, -Array.all_eq_true, -Bool.exists_bool, -Bool.forall_bool, and_assoc, List.zipIdx, Tryz.f6, drawMachStepC, machStepC, sMachStepC, sMemSameC, memSameC, bitTopC, sForkOkC, -Sx.splice_two, spl3j, spl2, zero_st', hms, k1m, k2m, g1, g2, g3]
      intro b3
      refine ⟨(t, 7, 0, none, 0, [], dt), rfl, ⟨RdO.nil _ _ _, hok, d0, d1⟩, fun v hv => ?_⟩
      obtain ⟨⟨mk, sk, fk⟩, rfl, ⟨-, eks, ekf⟩, kk⟩ := hv.ex
      rw [machN_7 rfl] at eks ekf
      simp only at eks ekf
      obtain rfl : sk = t.s := eks
      simp (maxSteps := 4000000) -dsimp [-List.all_eq_true, -Array.all_eq_true, -Bool.exists_bool, -Bool.forall_bool, and_assoc, List.zipIdx, Tryz.f6, drawMachStepC, machStepC, sMachStepC, sMemSameC, memSameC, bitTopC, sForkOkC, -Sx.splice_two, spl3j, spl2, zero_st']
      intro b4
      refine ⟨(⟨mk, t.s, fk⟩, 6, 0, none, 0, [], dt), rfl, ⟨RdO.nil _ _ _, kk, d0, d1⟩, fun v hv => ?_⟩
      obtain ⟨⟨mu, su, fu⟩, rfl, ⟨-, eus, euf⟩, ku⟩ := hv.ex
      rw [machN_6 rfl] at eus euf
      simp only at eus euf
      obtain rfl : fu = fk := euf
      simp (maxSteps := 4000000) -dsimp [-List.all_eq_true, -Array.all_eq_true, -Bool.exists_bool, -Bool.forall_bool, and_assoc, List.zipIdx, Tryz.f6, drawMachStepC, machStepC, sMachStepC, sMemSameC, memSameC, bitTopC, sForkOkC, -Sx.splice_two, spl3j, spl2, zero_st']
      intro b5
      refine ⟨(⟨mu, su, fu⟩, 8, 0, none, 0, [], dt), rfl, ⟨RdO.nil _ _ _, ku, d0, d1⟩, fun v hv => ?_⟩
      obtain ⟨⟨mr, sr, fr⟩, rfl, ⟨-, ers, erf⟩, kr⟩ := hv.ex
      rw [machN_8 rfl] at ers erf
      simp only at ers erf
      obtain rfl : fr = fu := erf
      simp (maxSteps := 4000000) -dsimp [-List.all_eq_true, -Array.all_eq_true, -Bool.exists_bool, -Bool.forall_bool, and_assoc, List.zipIdx, Tryz.f6, drawMachStepC, machStepC, sMachStepC, sMemSameC, memSameC, bitTopC, sForkOkC, -Sx.splice_two, spl3j, spl2, zero_st']
      intro b6
      refine ⟨(⟨mr, sr, fr⟩, 9, 0, none, 0, [], dt), rfl, ⟨RdO.nil _ _ _, kr, d0, d1⟩, fun v hv => ?_⟩
      obtain ⟨⟨mb, sb, fb⟩, rfl, ⟨-, ebs, ebf⟩, kb⟩ := hv.ex
      rw [machN_9 rfl] at ebs ebf
      simp only at ebs ebf
      have hkb := kept_back hok.s.1 hok.f.1
      simp only at hkb
      rw [← ekf, ← eus, ← ers, ← ebs, ← ebf] at hkb
      obtain ⟨q1, q2, q3⟩ := hkb
      unfold topB gS at q1 q2
      have w1 := hok.s
      have w2 := hok.f
      have w3 := kr.s
      have w4 := kb.s
      simp only at w3 w4
      simp (maxSteps := 4000000) -dsimp [-List.all_eq_true, -Array.all_eq_true, -Bool.exists_bool, -Bool.forall_bool, and_assoc, List.zipIdx, Tryz.f6, drawMachStepC, machStepC, sMachStepC, sMemSameC, memSameC, bitTopC, sForkOkC, -Sx.splice_two, spl3j, spl2, zero_st', w1, w2, w3, w4, q1, q2]
      exact ⟨fun a => ⟨fun b => ⟨hw, hg, by rw [q3 a b], by rw [q3 a b]⟩, fun _ => ⟨hw, hg⟩⟩, fun _ => ⟨hw, hg⟩⟩
    · have g5 : ¬ code < 1 := by omega
      simp (maxSteps := 4000000) -dsimp [-List.all_eq_true, -Array.all_eq_true, -Bool.exists_bool, -Bool.forall_bool, and_assoc, List.zipIdx, Tryz.f6, drawMachStepC, machStepC, sMachStepC, sMemSameC, memSameC, bitTopC, sForkOkC, -Sx.splice_two, spl3j, spl2, zero_st', hms, k1m, k2m, g5, g2, g3, g4]
      intro b3
      refine ⟨(t, 7, 0, none, 0, [], dt), rfl, ⟨RdO.nil _ _ _, hok, d0, d1⟩, fun v hv => ?_⟩
      obtain ⟨⟨mk, sk, fk⟩, rfl, ⟨-, eks, ekf⟩, kk⟩ := hv.ex
      rw [machN_7 rfl] at eks ekf
      simp only at eks ekf
      obtain rfl : sk = t.s := eks
      simp (maxSteps := 4000000) -dsimp [-List.all_eq_true, -Array.all_eq_true, -Bool.exists_bool, -Bool.forall_bool, and_assoc, List.zipIdx, Tryz.f6, drawMachStepC, machStepC, sMachStepC, sMemSameC, memSameC, bitTopC, sForkOkC, -Sx.splice_two, spl3j, spl2, zero_st']
      intro b4
      refine ⟨(⟨mk, t.s, fk⟩, 6, 0, none, 0, [], dt), rfl, ⟨RdO.nil _ _ _, kk, d0, d1⟩, fun v hv => ?_⟩
      obtain ⟨⟨mu, su, fu⟩, rfl, ⟨-, eus, euf⟩, ku⟩ := hv.ex
      rw [machN_6 rfl] at eus euf
      simp only at eus euf
      obtain rfl : fu = fk := euf
      simp (maxSteps := 4000000) -dsimp [-List.all_eq_true, -Array.all_eq_true, -Bool.exists_bool, -Bool.forall_bool, and_assoc, List.zipIdx, Tryz.f6, drawMachStepC, machStepC, sMachStepC, sMemSameC, memSameC, bitTopC, sForkOkC, -Sx.splice_two, spl3j, spl2, zero_st']
      intro b5
      refine ⟨(⟨mu, su, fu⟩, 8, 0, none, 0, [], dt), rfl, ⟨RdO.nil _ _ _, ku, d0, d1⟩, fun v hv => ?_⟩
      obtain ⟨⟨mr, sr, fr⟩, rfl, ⟨-, ers, erf⟩, kr⟩ := hv.ex
      rw [machN_8 rfl] at ers erf
      simp only at ers erf
      obtain rfl : fr = fu := erf
      simp (maxSteps := 4000000) -dsimp [-List.all_eq_true, -Array.all_eq_true, -Bool.exists_bool, -Bool.forall_bool, and_assoc, List.zipIdx, Tryz.f6, drawMachStepC, machStepC, sMachStepC, sMemSameC, memSameC, bitTopC, sForkOkC, -Sx.splice_two, spl3j, spl2, zero_st']
      intro b6
      refine ⟨(⟨mr, sr, fr⟩, 9, 0, none, 0, [], dt), rfl, ⟨RdO.nil _ _ _, kr, d0, d1⟩, fun v hv => ?_⟩
      obtain ⟨⟨mb, sb, fb⟩, rfl, ⟨-, ebs, ebf⟩, kb⟩ := hv.ex
      rw [machN_9 rfl] at ebs ebf
      simp only at ebs ebf
      have hkb := kept_back hok.s.1 hok.f.1
      simp only at hkb
      rw [← ekf, ← eus, ← ers, ← ebs, ← ebf] at hkb
      obtain ⟨q1, q2, q3⟩ := hkb
      unfold topB gS at q1 q2
      have w1 := hok.s
      have w2 := hok.f
      have w3 := kr.s
      have w4 := kb.s
      simp only at w3 w4
      simp (maxSteps := 4000000) -dsimp [-List.all_eq_true, -Array.all_eq_true, -Bool.exists_bool, -Bool.forall_bool, and_assoc, List.zipIdx, Tryz.f6, drawMachStepC, machStepC, sMachStepC, sMemSameC, memSameC, bitTopC, sForkOkC, -Sx.splice_two, spl3j, spl2, zero_st', w1, w2, w3, w4, q1, q2]
      exact ⟨fun a => ⟨fun b => ⟨hw, hg, by rw [q3 a b], by rw [q3 a b]⟩, fun _ => ⟨hw, hg⟩⟩, fun _ => ⟨hw, hg⟩⟩
  · have hs1 : (1048576 : Int) < bs.length := by omega
    simp (maxSteps := 4000000) -dsimp [-List.all_eq_true, -Array.all_eq_true, -Bool.exists_bool, -Bool.forall_bool, and_assoc, List.zipIdx, Tryz.f6, drawMachStepC, machStepC, sMachStepC, sMemSameC, memSameC, bitTopC, sForkOkC, hs1]
end Go.Proofs.YtfhnbdlkiemaeaaGreat
