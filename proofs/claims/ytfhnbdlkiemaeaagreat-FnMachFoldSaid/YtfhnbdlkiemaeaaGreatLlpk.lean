/-
  The law of scans one after the other, walked.
-/
import Derived.Test.YtfhnbdlkiemaeaaGreatGvpk
import Derived.Test.YtfhnbdlkiemaeaaGreatRtpk
set_option linter.unusedVariables false
set_option linter.unusedSimpArgs false
set_option maxRecDepth 100000
set_option maxHeartbeats 4000000
namespace Go.Proofs.YtfhnbdlkiemaeaaGreat
open Go Go.Sx
attribute [local simp] Go.Sx.vcsE1 Go.Sx.vcsE2 Go.Sx.vcsE3 Go.Sx.vcsE4 Go.Sx.vcsE5 Go.Sx.vcsE6 Go.Sx.vcsE7 Go.Sx.vcsE8 Go.Sx.vcsE9 Go.Sx.vcsE10 Go.Sx.vcsE11 Go.Sx.vcsE12 Go.Sx.vcsE13 Go.Sx.vcsE14 Go.Sx.vcsE15 Go.Sx.vcsE16 Go.Sx.vcsE17 Go.Sx.vcsE18 Go.Sx.vcsE19 Go.Sx.get Go.Sx.look Go.Sx.put Go.Sx.pureFn Go.Sx.findOrd Go.Sx.unF Go.Sx.dstOk Go.Sx.isFloatT Go.Sx.endVC Go.Sx.resFn Go.Sx.packC Go.Sx.newFn Go.Sx.storeFn Go.Sx.buildFn Go.Sx.known Go.Sx.aggT Go.Sx.cellsC Go.Sx.findCon Go.Sx.allV Go.Sx.partsV Go.Sx.partsC Go.Sx.fillL Go.Sx.exitTo Go.Sx.fAr Go.Sx.eqFn Go.Sx.eqFieldsFn Go.Sx.eqElemsFn Go.Sx.partFn Go.Sx.sliceFn Go.Sx.boundFn Go.Sx.AppV Go.Sx.CopyV Go.Sx.MakeSliceV Go.Sx.NewsV Go.Sx.GrowV Go.Sx.TextV Go.Sx.bytesL Go.Sx.notInt Go.Sx.typeAt Go.Sx.argAt Go.Sx.den Go.undef Go.Value.cells Go.Value.oneCell' Go.Sx.Con.pure Go.Sx.Con.some Go.Sx.Con.read Go.Sx.Con.make Go.Sx.Con.ext Go.Sx.Con.rel Go.Sx.Con.extS Go.Sx.Con.draw Go.Sx.Con.step Go.Sx.C.one Go.Sx.Draws.steps

theorem rdSm_take {F : Facts} {o : Option Addr} {ss : List Smp} (h : RdSm F o ss) (n : Nat) : RdSm F o (ss.take n) := by
  unfold RdSm at h ⊢
  rw [List.map_take]
  intro i r hr
  rw [List.getElem?_take] at hr
  split at hr
  · exact h i r hr
  · simp at hr
theorem rdSm_drop {F : Facts} {o : Option Addr} {ss : List Smp} (h : RdSm F o ss) (n : Nat) : RdSm F (padd o (n * 6)) (ss.drop n) := by
  unfold RdSm at h ⊢
  rw [List.map_drop]
  intro i r hr
  rw [List.getElem?_drop] at hr
  obtain ⟨h1, a, rfl, h3⟩ := h (n + i) r hr
  refine ⟨h1, _, rfl, fun j x hx => ?_⟩
  have := h3 j x hx
  rw [addr_add_add]
  rwa [show n * 6 + (i * 6 + j) = (n + i) * 6 + j by omega]
theorem lawMFoldC_c (o : Option Addr) (cap : Nat) (bs : List Int) (o2 : Option Addr) (cap2 : Nat) (cs : List Int) (w : World) (hpre : RdB (factF ⟨w, [], w, []⟩) o bs ∧ RdB (factF ⟨w, [], w, []⟩) o2 cs ∧ ((∀ b ∈ bs, 0 ≤ b ∧ b < 256) ∧ bs.length ≤ cap ∧ cap ≤ maxLen) ∧ ((∀ b ∈ cs, 0 ≤ b ∧ b < 256) ∧ cs.length ≤ cap2 ∧ cap2 ≤ maxLen)) : Calls Tryz.prog 7 #[.slice o bs.length cap, .slice o2 cs.length cap2] w fun e w' => e = .returned (.bool true) ∧ RowKit.Below w.heap.size w w' := by
  refine (plain_of_vcs ⟨[drawMachRunC, machRunC, sMachRunC, sMemSameC, memSameC, actStartC, machStepC, actEndC, machScanC], [(5, [(0, false), (1, false), (2, false), (3, false), (4, false), (0, true), (5, false), (6, false)]), (10, [(0, false), (1, false), (2, false), (3, false), (4, false), (5, false), (7, false), (8, false), (9, false), (11, false), (6, false), (11, true), (10, false), (11, true), (12, false), (13, false)])]⟩ hmx Tryz.func7 rfl (by kernel_rfl) (args := [.slice o bs.length cap, .slice o2 cs.length cap2]) (by simp [Tryz.ntmps7]) w (· = .bool true) 400 ?_).mono fun e w' ⟨v, h1, h2, h3⟩ => ⟨h2 ▸ h1, h3⟩
  obtain ⟨h, h2, hb, hb2⟩ := hpre
  by_cases hs : bs.length ≤ 1048576 ∧ cs.length ≤ 1048576
  · have hs1 : ¬ (1048576 : Int) < bs.length := by omega
    have hs2 : ¬ (1048576 : Int) < cs.length := by omega
    simp (maxSteps := 4000000) -dsimp [-List.all_eq_true, -Array.all_eq_true, -Bool.exists_bool, -Bool.forall_bool, and_assoc, List.zipIdx, Tryz.f7, drawMachRunC, machRunC, sMachRunC, sMemSameC, memSameC, actStartC, machStepC, actEndC, machScanC, hs1, hs2, Con.gen]
    refine drawMachRunC_at ⟨h, hb⟩ ?_
    rintro cx1 c mem1 ⟨hle1, rfl, xo, xcap, xs, m, so, scap, ss, rfl, hxd, hxc, hxm, hxl, hxa, hm, hsd, hsc, hscm, hsl, hsm⟩
    have hw := hle1.w0
    have hg := hle1.g0
    simp (maxSteps := 4000000) -dsimp [-List.all_eq_true, -Array.all_eq_true, -Bool.exists_bool, -Bool.forall_bool, and_assoc, List.zipIdx, Tryz.f7, drawMachRunC, machRunC, sMachRunC, sMemSameC, memSameC, actStartC, machStepC, actEndC, machScanC, Con.gen, -Sx.splice_two]
    intro b0
    refine ⟨(xo, xcap, xs, m, so, scap, ss), rfl, ⟨hxd.mono (sub_now _ _), hsd.mono (sub_now _ _), hm, hsm, by omega, by omega⟩, fun v hv => ?_⟩
    obtain ⟨ma, rfl, ea, ka⟩ := hv.ex
    simp (maxSteps := 4000000) -dsimp [-List.all_eq_true, -Array.all_eq_true, -Bool.exists_bool, -Bool.forall_bool, and_assoc, List.zipIdx, Tryz.f7, drawMachRunC, machRunC, sMachRunC, sMemSameC, memSameC, actStartC, machStepC, actEndC, machScanC, Con.gen, -Sx.splice_two]
    intro b1
    refine ⟨(xo, xcap, xs, m, so, scap, ss), rfl, ⟨hxd.mono (sub_now _ _), hsd.mono (sub_now _ _), hm, hsm, by omega, by omega⟩, fun v hv => ?_⟩
    obtain ⟨mb, rfl, eb, kb⟩ := hv.ex
    have hab : msB ma mb = true := msB_iff.2 (ea.trans eb.symm)
    by_cases hbig : (100 : Int) < ss.length
    · have hrun : machRunN xs m ss = m := by unfold machRunN; rw [if_neg (by omega)]
      rw [hrun] at ea
      have ham : msB ma m = true := msB_iff.2 ea
      simp (maxSteps := 4000000) -dsimp [-List.all_eq_true, -Array.all_eq_true, -Bool.exists_bool, -Bool.forall_bool, and_assoc, List.zipIdx, Tryz.f7, drawMachRunC, machRunC, sMachRunC, sMemSameC, memSameC, actStartC, machStepC, actEndC, machScanC, Con.gen, -Sx.splice_two, hab, ka, kb, hbig, ham, hw, hg]
    by_cases hbig2 : (1000 : Int) < xs.length
    · have hrun : machRunN xs m ss = m := by unfold machRunN; rw [if_neg (by omega)]
      rw [hrun] at ea
      have ham : msB ma m = true := msB_iff.2 ea
      simp (maxSteps := 4000000) -dsimp [-List.all_eq_true, -Array.all_eq_true, -Bool.exists_bool, -Bool.forall_bool, and_assoc, List.zipIdx, Tryz.f7, drawMachRunC, machRunC, sMachRunC, sMemSameC, memSameC, actStartC, machStepC, actEndC, machScanC, Con.gen, -Sx.splice_two, hab, ka, kb, hbig, hbig2, ham, hw, hg]
    obtain ⟨k, hk, hkl⟩ : ∃ k : Nat, (cs.length : Int).tmod ((ss.length : Int) + 1) = (k : Int) ∧ k ≤ ss.length := by
      refine ⟨cs.length % (ss.length + 1), ?_, by have := Nat.mod_lt cs.length (show 0 < ss.length + 1 by omega); omega⟩
      have := Int.ofNat_tmod cs.length (ss.length + 1)
      rw [this]; simp
    have hw1 : IntKind.i64.wrap ((ss.length : Int) + 1) = (ss.length : Int) + 1 := wrap_i64 (by omega) (by omega)
    have hk0 : ¬ (ss.length : Int) + 1 = 0 := by omega
    have hkc : (k : Int) ≤ scap := by omega
    simp (maxSteps := 4000000) -dsimp [-List.all_eq_true, -Array.all_eq_true, -Bool.exists_bool, -Bool.forall_bool, and_assoc, List.zipIdx, Tryz.f7, drawMachRunC, machRunC, sMachRunC, sMemSameC, memSameC, actStartC, machStepC, actEndC, machScanC, Con.gen, -Sx.splice_two, hab, ka, kb, hbig, hbig2, hw1, hk, hk0, hkc]
    have hrn : machRunN xs m ss = scansN xs m ss := by unfold machRunN; rw [if_pos (by omega)]
    have hmemT : ∀ s ∈ ss.take k, SmpOk s := fun s h => hsm s (List.mem_of_mem_take h)
    have hmemD : ∀ s ∈ ss.drop k, SmpOk s := fun s h => hsm s (List.mem_of_mem_drop h)
    refine ⟨hkl, by omega, (xo, xcap, xs, m, so, scap, ss.take k), ?_, ⟨hxd.mono (sub_now _ _), (rdSm_take hsd k).mono (sub_now _ _), hm, hmemT, by omega, by simp; omega⟩, fun v hv => ?_⟩
    · show _ = [Value.slice xo xs.length xcap, .agg (cells m), .slice so (ss.take k).length scap]
      rw [List.length_take, Nat.min_eq_left hkl]; rfl
    obtain ⟨mt, rfl, et, kt⟩ := hv.ex
    simp (maxSteps := 4000000) -dsimp [-List.all_eq_true, -Array.all_eq_true, -Bool.exists_bool, -Bool.forall_bool, and_assoc, List.zipIdx, Tryz.f7, drawMachRunC, machRunC, sMachRunC, sMemSameC, memSameC, actStartC, machStepC, actEndC, machScanC, Con.gen, -Sx.splice_two]
    refine ⟨(xo, xcap, xs, mt, if (scap : Int) = k then so else padd so (k * 6), scap - k, ss.drop k), ?_, ⟨hxd.mono (sub_now _ _), RdSm.mono ?_ (sub_now _ _), kt, hmemD, by omega, by simp; omega⟩, fun v hv => ?_⟩
    · show _ = [Value.slice xo xs.length xcap, .agg (cells mt), .slice (if (scap : Int) = k then so else padd so (k * 6)) (ss.drop k).length (scap - k)]
      rw [List.length_drop]; rfl
    · split
      · rename_i hsk
        have : ss.drop k = [] := List.drop_eq_nil_of_le (by omega)
        rw [this]; exact RdO.nil _ _ _
      · exact rdSm_drop hsd k
    obtain ⟨md, rfl, ed, kd⟩ := hv.ex
    have hmd : msB md ma = true := by
      refine msB_iff.2 (MSame.trans ed (MSame.trans ?_ ea.symm))
      have e1 : machRunN xs mt (ss.drop k) = scansN xs mt (ss.drop k) := by unfold machRunN; rw [if_pos (by simp; omega)]
      have e2 : machRunN xs m (ss.take k) = scansN xs m (ss.take k) := by unfold machRunN; rw [if_pos (by simp; omega)]
      rw [e1, hrn]
      rw [e2] at et
      have := scansN_same et xs (ss.drop k)
      rwa [← scansN_app, List.take_append_drop] at this
    by_cases hnil : ss.length = 0
    · have hnil' := eq_true hnil
      have hse : ss = [] := List.length_eq_zero_iff.1 hnil
      rw [hrn, hse] at ea
      have ham : msB ma m = true := msB_iff.2 ea
      have hse' := eq_true hse
      simp (maxSteps := 4000000) -dsimp [-List.all_eq_true, -Array.all_eq_true, -Bool.exists_bool, -Bool.forall_bool, and_assoc, List.zipIdx, Tryz.f7, drawMachRunC, machRunC, sMachRunC, sMemSameC, memSameC, actStartC, machStepC, actEndC, machScanC, Con.gen, -Sx.splice_two, hmd, hnil', hse', ham, hw, hg]
    obtain ⟨s, hs0⟩ : ∃ s, ss[0]? = some s := ⟨ss[0]'(by omega), by rw [List.getElem?_eq_getElem]⟩
    have hsm0 := hsm s (List.mem_of_getElem? hs0)
    have hpos : 0 < ss.length := by omega
    have hall : ∀ (d : Nat) (mem : List Blk) (K : Value → Prop), LoadV d Tryz.prog cx1 mem 41 so K = K (.agg (sampleL s.x s.dt s.f).toArray) := fun d mem K => by
      have := hsd.all (P := Tryz.prog) (d := d) (mem := mem) (K := K) (t := 41) hs0 (by kernel_rfl) (by kernel_rfl)
      simpa using this
    have hdt : ∀ (d : Nat) (mem : List Blk) (K : Value → Prop), LoadV d Tryz.prog cx1 mem 26 (padd so 1) K = K (.int .u16 s.dt) := fun d mem K => by
      have := RdO.ld_one (P := Tryz.prog) (d := d) (K := K) (RdO.mono hsd (sub_now cx1 mem)) (t := 26) (by kernel_rfl) (i := 0) (j := 1) (r := smL s) (by simp [hs0]) (x := .int .u16 s.dt) rfl
      simpa using this
    have hth : so.isSome = true := hsd.there hpos
    have hso := start_ok hm hsm0
    simp (maxSteps := 4000000) -dsimp [-List.all_eq_true, -Array.all_eq_true, -Bool.exists_bool, -Bool.forall_bool, and_assoc, List.zipIdx, Tryz.f7, drawMachRunC, machRunC, sMachRunC, sMemSameC, memSameC, actStartC, machStepC, actEndC, machScanC, Con.gen, -Sx.splice_two, hmd, hnil, hpos, hall, hth, sm_inj, zero_st', st_build, len_stL, hm, hsm0.x, hsm0.f]
    intro b2
    refine loop_inv (σ := ⟨[drawMachRunC, machRunC, sMachRunC, sMemSameC, memSameC, actStartC, machStepC, actEndC, machScanC], [(5, [(0, false), (1, false), (2, false), (3, false), (4, false), (0, true), (5, false), (6, false)]), (10, [(0, false), (1, false), (2, false), (3, false), (4, false), (5, false), (7, false), (8, false), (9, false), (11, false), (6, false), (11, true), (10, false), (11, true), (12, false), (13, false)])]⟩) hmx (by kernel_rfl) (fun q cx tm mem => cx = cx1 ∧ ∃ (i : Nat) (t : MS), i ≤ xs.length ∧ q = xs.length - i ∧ MSt t (Sx.runN (startN m s) s.dt (xs.take i)) ∧ MSOk t ∧ mem = [⟨b0, cellC m, 38⟩, ⟨b1, cellC ma, 38⟩, ⟨b2, stC t, 60⟩] ∧ Sx.look tm 11 = .v (.int .i64 i) ∧ Sx.look tm 5 = .v (.slice xo xs.length xcap) ∧ Sx.look tm 7 = .v (.slice so ss.length scap) ∧ Sx.look tm 6 = .p 0 b0 0 ∧ Sx.look tm 10 = .p 2 b2 0)
      xs.length ⟨rfl, 0, startN m s, by omega, rfl, MSt.refl _, hso, rfl, by simp [Sx.look], by simp [Sx.look], by simp [Sx.look], by simp [Sx.look], by simp [Sx.look]⟩ ?_
    rintro q cx tm mem ⟨rfl, i, t, hi, rfl, hst, hok, rfl, j11, j5, j7, j6, j10⟩
    refine ⟨500, ?_⟩
    by_cases hlt : i < xs.length
    · obtain ⟨x, hx⟩ : ∃ x, xs[i]? = some x := ⟨xs[i], by simp [hlt]⟩
      obtain ⟨o', cap', hat⟩ := hxd.at hx
      simp (maxSteps := 4000000) -dsimp [-List.all_eq_true, -Array.all_eq_true, -Bool.exists_bool, -Bool.forall_bool, and_assoc, List.zipIdx, Tryz.f7, drawMachRunC, machRunC, sMachRunC, sMemSameC, memSameC, actStartC, machStepC, actEndC, machScanC, Con.gen, -Sx.splice_two, hpos, hdt, hth, j11, j5, j7, j6, j10, hlt, hxd.there hlt, hat.all]
      refine ⟨(t, x.code, x.op, o', cap', x.args, s.dt), rfl, ⟨hat.args.mono (sub_now _ _), hok, hsm0.dt.1, hsm0.dt.2⟩, fun v hv => ?_⟩
      obtain ⟨t1, rfl, s1, k1⟩ := hv.ex
      simp (maxSteps := 4000000) -dsimp [-List.all_eq_true, -Array.all_eq_true, -Bool.exists_bool, -Bool.forall_bool, and_assoc, List.zipIdx, Tryz.f7, drawMachRunC, machRunC, sMachRunC, sMemSameC, memSameC, actStartC, machStepC, actEndC, machScanC, Con.gen, -Sx.splice_two, j11, j5, j7, j6, j10, i_succ (i := i) (by omega)]
      exact ⟨3, xs.length - (i + 1), by omega, i + 1, by omega, rfl, t1, run_next hx hst s1, k1, rfl, by omega⟩
    · obtain rfl : i = xs.length := by omega
      rw [List.take_length] at hst
      have e : scanN xs m s = ranM (Sx.runN (startN m s) s.dt xs).m := by unfold scanN; rw [if_pos (by omega)]; rfl
      simp (maxSteps := 4000000) -dsimp [-List.all_eq_true, -Array.all_eq_true, -Bool.exists_bool, -Bool.forall_bool, and_assoc, List.zipIdx, Tryz.f7, drawMachRunC, machRunC, sMachRunC, sMemSameC, memSameC, actStartC, machStepC, actEndC, machScanC, Con.gen, -Sx.splice_two, hpos, hall, hth, j11, j5, j7, j6, j10]
      refine ⟨(xo, xcap, xs, m, s), rfl, ⟨hxd.mono (sub_now _ _), hm, hsm0, by omega⟩, fun v hv => ?_⟩
      obtain ⟨mz, rfl, ez, kz⟩ := hv.ex
      rw [e] at ez
      have hz : msB { t.m with Ran := true } mz = true := msB_iff.2 ((ran_same hst.m).trans ez.symm)
      simp (maxSteps := 4000000) -dsimp [-List.all_eq_true, -Array.all_eq_true, -Bool.exists_bool, -Bool.forall_bool, and_assoc, List.zipIdx, Tryz.f7, drawMachRunC, machRunC, sMachRunC, sMemSameC, memSameC, actStartC, machStepC, actEndC, machScanC, Con.gen, -Sx.splice_two, hz, hw, hg]
  · by_cases hs1 : (1048576 : Int) < bs.length
    · simp (maxSteps := 4000000) -dsimp [-List.all_eq_true, -Array.all_eq_true, -Bool.exists_bool, -Bool.forall_bool, and_assoc, List.zipIdx, Tryz.f7, drawMachRunC, machRunC, sMachRunC, sMemSameC, memSameC, actStartC, machStepC, actEndC, machScanC, hs1]
    · have hs2 : (1048576 : Int) < cs.length := by omega
      simp (maxSteps := 4000000) -dsimp [-List.all_eq_true, -Array.all_eq_true, -Bool.exists_bool, -Bool.forall_bool, and_assoc, List.zipIdx, Tryz.f7, drawMachRunC, machRunC, sMachRunC, sMemSameC, memSameC, actStartC, machStepC, actEndC, machScanC, hs1, hs2]
end Go.Proofs.YtfhnbdlkiemaeaaGreat
