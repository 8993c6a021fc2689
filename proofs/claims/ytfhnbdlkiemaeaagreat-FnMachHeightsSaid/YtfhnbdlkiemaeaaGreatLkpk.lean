/-
  The law of heights, walked.
-/
import Derived.Test.YtfhnbdlkiemaeaaGreatGvpk
import Derived.Test.YtfhnbdlkiemaeaaGreatSspk
import Derived.Test.YtfhnbdlkiemaeaaGreatStpk
set_option linter.unusedVariables false
set_option linter.unusedSimpArgs false
set_option maxRecDepth 100000
set_option maxHeartbeats 4000000
namespace Go.Proofs.YtfhnbdlkiemaeaaGreat
open Go Go.Sx
open List renaming all_eq_true → Y1, zipIdx → Y5
open Bool renaming exists_bool → Y3, forall_bool → Y4
attribute [local simp] Go.Sx.vcsE1 Go.Sx.vcsE2 Go.Sx.vcsE3 Go.Sx.vcsE4 Go.Sx.vcsE5 Go.Sx.vcsE6 Go.Sx.vcsE7 Go.Sx.vcsE8 Go.Sx.vcsE9 Go.Sx.vcsE10 Go.Sx.vcsE11 Go.Sx.vcsE12 Go.Sx.vcsE13 Go.Sx.vcsE14 Go.Sx.vcsE15 Go.Sx.vcsE16 Go.Sx.vcsE17 Go.Sx.vcsE18 Go.Sx.vcsE19 Go.Sx.get Go.Sx.look Go.Sx.put Go.Sx.pureFn Go.Sx.findOrd Go.Sx.unF Go.Sx.dstOk Go.Sx.isFloatT Go.Sx.endVC Go.Sx.resFn Go.Sx.packC Go.Sx.newFn Go.Sx.storeFn Go.Sx.buildFn Go.Sx.known Go.Sx.aggT Go.Sx.cellsC Go.Sx.findCon Go.Sx.allV Go.Sx.partsV Go.Sx.partsC Go.Sx.fillL Go.Sx.exitTo Go.Sx.fAr Go.Sx.eqFn Go.Sx.eqFieldsFn Go.Sx.eqElemsFn Go.Sx.partFn Go.Sx.sliceFn Go.Sx.boundFn Go.Sx.AppV Go.Sx.CopyV Go.Sx.MakeSliceV Go.Sx.NewsV Go.Sx.GrowV Go.Sx.TextV Go.Sx.bytesL Go.Sx.notInt Go.Sx.typeAt Go.Sx.argAt Go.Sx.den Go.undef Go.Value.cells Go.Value.oneCell' Go.Sx.Con.pure Go.Sx.Con.some Go.Sx.Con.read Go.Sx.Con.make Go.Sx.Con.ext Go.Sx.Con.rel Go.Sx.Con.extS Go.Sx.Con.draw Go.Sx.Con.step Go.Sx.C.one Go.Sx.Draws.steps

theorem st_buildM (m : M) : cellL m ++ List.drop 136 (stL (bootN zeroM)) = stL (bootN m) := by kernel_rfl
theorem boot_ok {m : M} (h : MOk m) : MSOk (bootN m) := ⟨h, by simp [bootN], by simp [bootN]⟩
theorem lawMHeightC_c (o : Option Addr) (cap : Nat) (bs : List Int) (w : World) (hpre : RdB (factF ⟨w, [], w, []⟩) o bs ∧ ((∀ b ∈ bs, 0 ≤ b ∧ b < 256) ∧ bs.length ≤ cap ∧ cap ≤ maxLen)) : Calls Tryz.prog 4 #[.slice o bs.length cap] w fun e w' => e = .returned (.bool true) ∧ RowKit.Below w.heap.size w w' := by
  refine (plain_of_vcs ⟨[drawMachScanC, sSureCheckC, iSureCheckC, sureTraceC, machStepC, bitOkC, forkOkC], []⟩ hmx Tryz.func4 rfl (by kernel_rfl) (args := [.slice o bs.length cap]) (by simp [Tryz.ntmps4]) w (· = .bool true) 400 ?_).mono fun e w' ⟨v, h1, h2, h3⟩ => ⟨h2 ▸ h1, h3⟩
  obtain ⟨h, hb⟩ := hpre
  by_cases hs : bs.length ≤ 1048576
  · have hs1 : ¬ (1048576 : Int) < bs.length := by omega
    simp (maxSteps := 4000000) -dsimp [-Y1, -Array.all_eq_true, -Y3, -Y4, and_assoc, Y5, Tryz.f4, drawMachScanC, sSureCheckC, iSureCheckC, sureTraceC, machStepC, bitOkC, forkOkC, hs1, Con.gen]
    refine drawMachScanC_at ⟨h, hb⟩ ?_
    rintro cx1 c mem1 ⟨hle1, rfl, xo, xcap, xs, m, s, rfl, hxd, hxc, hxm, hxl, hxa, hm, hsm⟩
    have hxa' : ∀ x ∈ xs, x.args.length ≤ 1048576 := fun x hx => by have := hxa x hx; omega
    have hw := hle1.w0
    have hg := hle1.g0
    simp (maxSteps := 4000000) -dsimp [-Y1, -Array.all_eq_true, -Y3, -Y4, and_assoc, Y5, Tryz.f4, drawMachScanC, sSureCheckC, iSureCheckC, sureTraceC, machStepC, bitOkC, forkOkC, -Sx.splice_two, sm_len, sm_take, sm_one, sm_spl, sm_inj, allV_map]
    intro b0 b1
    have t1 := fun (d : Nat) (mem : List Blk) (K : C → Prop) => iSureCheckC_rw (d := d) (cx := cx1) (mem := mem) (K := K) (o := xo) (cap := xcap) (xs := xs) ⟨hxd.mono (sub_now _ _), by omega, hxa'⟩
    have t2 := fun (d : Nat) (mem : List Blk) (K : C → Prop) => sSureCheckC_rw (d := d) (cx := cx1) (mem := mem) (K := K) (o := xo) (cap := xcap) (xs := xs) ⟨hxd.mono (sub_now _ _), by omega, hxa'⟩
    by_cases hz : (sureN xs).1 = 0
    · obtain ⟨z1, z2, z3, z4, z5⟩ := sureN_zero hz
      simp (maxSteps := 4000000) -dsimp [-Y1, -Array.all_eq_true, -Y3, -Y4, and_assoc, Y5, Tryz.f4, drawMachScanC, sSureCheckC, iSureCheckC, sureTraceC, machStepC, bitOkC, forkOkC, Con.gen, -Sx.splice_two, t1, t2, hz]
      refine ⟨(xo, xcap, xs), rfl, ⟨hxd.mono (sub_now _ _), by omega⟩, ?_⟩
      rintro cx2 v hle2 hv
      obtain ⟨o2, cap2, rfl, r1, r2, r3⟩ := hv.ex
      have hn : trN xs = xs.length := by unfold trN; rw [if_pos z1]
      have hw2 := (hle1.trans hle2).w0
      have hg2 := (hle1.trans hle2).g0
      have hxd2 := hxd.mono hle2.fact
      simp (maxSteps := 4000000) -dsimp [-Y1, -Array.all_eq_true, -Y3, -Y4, and_assoc, Y5, Tryz.f4, drawMachScanC, sSureCheckC, iSureCheckC, sureTraceC, machStepC, bitOkC, forkOkC, Con.gen, -Sx.splice_two, hn, zero_st', st_buildM, len_stL]
      intro b2
      refine loop_inv (σ := ⟨[drawMachScanC, sSureCheckC, iSureCheckC, sureTraceC, machStepC, bitOkC, forkOkC], []⟩) hmx (by kernel_rfl) (fun q cx tm mem => cx = cx2 ∧ ∃ (i : Nat) (t : MS), i ≤ xs.length ∧ q = xs.length - i ∧ MSt t (Sx.runN (bootN m) s.dt (xs.take i)) ∧ MSOk t ∧ mem = [⟨b0, cellC m, 38⟩, ⟨b1, List.map C.v (sampleL s.x s.dt s.f), 41⟩, ⟨b2, stC t, 60⟩] ∧ Sx.look tm 8 = .v (.int .i64 i) ∧ Sx.look tm 3 = .v (.slice xo xs.length xcap) ∧ Sx.look tm 6 = .v (.slice o2 xs.length cap2) ∧ Sx.look tm 5 = .p 1 b1 0 ∧ Sx.look tm 4 = .p 0 b0 0 ∧ Sx.look tm 7 = .p 2 b2 0)
        xs.length ⟨rfl, 0, bootN m, by omega, rfl, MSt.refl _, boot_ok hm, rfl, by simp [Sx.look], by simp [Sx.look], by simp [Sx.look], by simp [Sx.look], by simp [Sx.look], by simp [Sx.look]⟩ ?_
      rintro q cx tm mem ⟨rfl, i, t, hi, rfl, hst, hok, rfl, j8, j3, j6, j5, j4, j7⟩
      refine ⟨500, ?_⟩
      by_cases hlt : i < xs.length
      · obtain ⟨x, hx⟩ : ∃ x, xs[i]? = some x := ⟨xs[i], by simp [hlt]⟩
        obtain ⟨o', cap', hat⟩ := hxd2.at hx
        have htr := trAt (RdO.mono r1 (sub_new cx)) (by omega : i < trN xs)
        simp (maxSteps := 4000000) -dsimp [-Y1, -Array.all_eq_true, -Y3, -Y4, and_assoc, Y5, Tryz.f4, drawMachScanC, sSureCheckC, iSureCheckC, sureTraceC, machStepC, bitOkC, forkOkC, Con.gen, -Sx.splice_two, sm_len, sm_take, sm_one, sm_spl, sm_inj, sm_get, sm_gete, allV_map, j8, j3, j6, j5, j4, j7, hlt, hxd2.there hlt, hat.all]
        refine ⟨(t, x.code, x.op, o', cap', x.args, s.dt), rfl, ⟨hat.args.mono (sub_now _ _), hok, hsm.dt.1, hsm.dt.2⟩, fun v hv => ?_⟩
        obtain ⟨t1, rfl, s1, k1⟩ := hv.ex
        have hah := atH_run (m := m) (dt := s.dt) z2 (i + 1) (by omega)
        have hnx := run_next hx hst s1
        obtain ⟨n1, n2, n3⟩ := hnx
        obtain ⟨⟨u0, u1⟩, ⟨u2, u3⟩, u4, u5⟩ := hah
        rw [← n2] at u0 u1 u4
        rw [← n3] at u2 u3 u5
        have kb := k1.s
        have kf := k1.f
        rw [u4] at u1
        rw [u5] at u3
        simp (maxSteps := 4000000) -dsimp [-Y1, -Array.all_eq_true, -Y3, -Y4, and_assoc, Y5, Tryz.f4, drawMachScanC, sSureCheckC, iSureCheckC, sureTraceC, machStepC, bitOkC, forkOkC, Con.gen, -Sx.splice_two, j8, j3, j6, j5, j4, j7, hlt, htr.there, htr.bits, htr.forks, u1, u3, u4, u5, kb, kf, i_succ (i := i) (by omega)]
        exact ⟨3, xs.length - (i + 1), by omega, i + 1, by omega, rfl, t1, ⟨n1, n2, n3⟩, k1, rfl, by omega⟩
      · obtain rfl : i = xs.length := by omega
        rw [List.take_length] at hst
        have hah := atH_run (m := m) (dt := s.dt) z2 xs.length (Nat.le_refl _)
        rw [List.take_length, z3, z4] at hah
        obtain ⟨n1, n2, n3⟩ := hst
        have y1 := zero_h hah.so hah.hb
        have y2 := zero_h hah.fo hah.hf
        rw [← n2] at y1
        rw [← n3] at y2
        simp (maxSteps := 4000000) -dsimp [-Y1, -Array.all_eq_true, -Y3, -Y4, and_assoc, Y5, Tryz.f4, drawMachScanC, sSureCheckC, iSureCheckC, sureTraceC, machStepC, bitOkC, forkOkC, Con.gen, -Sx.splice_two, j8, j3, j6, j5, j4, j7, y1, y2, hw2, hg2]
    · have hgt : 0 < (sureN xs).1 := by have := (sureN_bd xs).1; omega
      simp (maxSteps := 4000000) -dsimp [-Y1, -Array.all_eq_true, -Y3, -Y4, and_assoc, Y5, Tryz.f4, drawMachScanC, sSureCheckC, iSureCheckC, sureTraceC, machStepC, bitOkC, forkOkC, Con.gen, -Sx.splice_two, t1, t2, hgt, hw, hg]
  · have hs1 : (1048576 : Int) < bs.length := by omega
    simp (maxSteps := 4000000) -dsimp [-Y1, -Array.all_eq_true, -Y3, -Y4, and_assoc, Y5, Tryz.f4, drawMachScanC, sSureCheckC, iSureCheckC, sureTraceC, machStepC, bitOkC, forkOkC, hs1]
end Go.Proofs.YtfhnbdlkiemaeaaGreat
