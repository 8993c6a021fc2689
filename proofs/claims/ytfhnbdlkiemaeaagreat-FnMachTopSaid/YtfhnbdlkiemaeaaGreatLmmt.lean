/-
  The law of the machine that looks, walked.
-/
import Derived.Test.YtfhnbdlkiemaeaaGreatWlmt
import Derived.Test.YtfhnbdlkiemaeaaGreatGvmt
import Derived.Test.YtfhnbdlkiemaeaaGreatRtmt
import Derived.Test.YtfhnbdlkiemaeaaGreatStmt
set_option linter.unusedVariables false
set_option linter.unusedSimpArgs false
set_option maxRecDepth 100000
set_option maxHeartbeats 4000000
namespace Go.Proofs.YtfhnbdlkiemaeaaGreat
open Go Go.Sx
attribute [local simp] Sx.vcsE1 Sx.vcsE2 Sx.vcsE3 Sx.vcsE4 Sx.vcsE5 Sx.vcsE6 Sx.vcsE7 Sx.vcsE8 Sx.vcsE9 Sx.vcsE10 Sx.vcsE11 Sx.vcsE12 Sx.vcsE13 Sx.vcsE14 Sx.vcsE15 Sx.vcsE16 Sx.vcsE17 Sx.vcsE18 Sx.vcsE19 Sx.get Sx.look Sx.put Sx.pureFn Sx.findOrd Sx.unF Sx.dstOk Sx.isFloatT Sx.endVC Sx.resFn Sx.packC Sx.newFn Sx.storeFn Sx.buildFn Sx.known Sx.aggT Sx.cellsC Sx.findCon Sx.allV Sx.partsV Sx.partsC Sx.fillL Sx.exitTo Sx.fAr Sx.eqFn Sx.eqFieldsFn Sx.eqElemsFn Sx.partFn Sx.sliceFn Sx.boundFn Sx.AppV Sx.CopyV Sx.MakeSliceV Sx.NewsV Sx.GrowV Sx.TextV Sx.bytesL Sx.notInt Sx.typeAt Sx.argAt Sx.den Go.undef Go.Value.cells Go.Value.oneCell' Sx.Con.pure Sx.Con.some Sx.Con.read Sx.Con.make Sx.Con.ext Sx.Con.rel Sx.Con.extS Sx.Con.draw Sx.Con.step Sx.C.one Sx.Draws.steps

theorem watch_law (xs : List Ins) (m : M) (s : Smp) :
    ((watchN xs m s).2.1 = 0 ∧ (watchN xs m s).2.2 = 0 ∧ MSame (watchN xs m s).1 (scanN xs m s)) ∨ (1 ≤ (watchN xs m s).2.1 ∧ (sureN xs).1 ≠ 0 ∧ (watchN xs m s).1 = m ∧ 0 ≤ (watchN xs m s).2.2 ∧ (watchN xs m s).2.2 < xs.length) := by
  unfold watchN scanN
  by_cases hl : xs.length ≤ 1000
  · rw [if_pos hl, if_pos hl]
    rcases watchGo_spec (dt := s.dt) (xs := xs) xs.length 0 (startN m s) (by omega) with ⟨a1, a2, a3⟩ | ⟨a1, a2, a3, a4⟩
    · rw [if_neg (by simp [a1])]
      refine Or.inl ⟨rfl, rfl, ?_⟩
      rw [a3, List.drop_zero]
      exact MSame_refl _
    · rw [if_pos (by omega)]
      refine Or.inr ⟨a1, fun hz => ?_, rfl, a3, a4⟩
      obtain ⟨z1, z2, _⟩ := sureN_zero hz
      have := watch_sure (xs := xs) (m := actStart m s.x s.dt s.f) (dt := s.dt) z2 xs.length 0 (by omega)
      rw [List.take_zero] at this
      have e : Sx.runN (bootN (actStart m s.x s.dt s.f)) s.dt [] = startN m s := rfl
      rw [e] at this
      omega
  · rw [if_neg hl, if_neg hl]
    exact Or.inl ⟨rfl, rfl, MSame_refl _⟩
theorem lawMTopC_c (o : Option Addr) (cap : Nat) (bs : List Int) (w : World) (hpre : RdB (factF ⟨w, [], w, []⟩) o bs ∧ ((∀ b ∈ bs, 0 ≤ b ∧ b < 256) ∧ bs.length ≤ cap ∧ cap ≤ maxLen)) : Calls Tryz.prog 3 #[.slice o bs.length cap] w fun e w' => e = .returned (.bool true) ∧ RowKit.Below w.heap.size w w' := by
  refine (plain_of_vcs ⟨[drawMachScanC, iWatchC, sWatchC, machScanC, sMachScanC, sMemSameC, memSameC, sSureCheckC], [(7, [(0, false), (1, false), (2, false), (3, false), (4, false), (5, false), (6, false), (7, false), (8, false), (4, true), (9, false), (10, false), (11, false)])]⟩ hmx Tryz.func3 rfl (by kernel_rfl) (args := [.slice o bs.length cap]) (by simp [Tryz.ntmps3]) w (· = .bool true) 400 ?_).mono fun e w' ⟨v, h1, h2, h3⟩ => ⟨h2 ▸ h1, h3⟩
  obtain ⟨h, hb⟩ := hpre
  by_cases hs : bs.length ≤ 1048576
  · have hs1 : ¬ (1048576 : Int) < bs.length := by omega
    simp (maxSteps := 4000000) -dsimp [-List.all_eq_true, -Array.all_eq_true, -Bool.exists_bool, -Bool.forall_bool, and_assoc, List.zipIdx, Tryz.f3, drawMachScanC, iWatchC, sWatchC, machScanC, sMachScanC, sMemSameC, memSameC, sSureCheckC, hs1, Con.gen]
    refine drawMachScanC_at ⟨h, hb⟩ ?_
    rintro cx1 c mem1 ⟨hle1, rfl, xo, xcap, xs, m, s, rfl, hxd, hxc, hxm, hxl, hxa, hm, hsm⟩
    have hxa' : ∀ x ∈ xs, x.args.length ≤ 1048576 := fun x hx => by have := hxa x hx; omega
    have hw := hle1.w0
    have hg := hle1.g0
    have t2 := fun (d : Nat) (mem : List Blk) (K : C → Prop) => sSureCheckC_rw (d := d) (cx := cx1) (mem := mem) (K := K) (o := xo) (cap := xcap) (xs := xs) ⟨hxd.mono (sub_now _ _), by omega, hxa'⟩
    simp (maxSteps := 4000000) -dsimp [-List.all_eq_true, -Array.all_eq_true, -Bool.exists_bool, -Bool.forall_bool, and_assoc, List.zipIdx, Tryz.f3, drawMachScanC, iWatchC, sWatchC, machScanC, sMachScanC, sMemSameC, memSameC, sSureCheckC, Con.gen, -Sx.splice_two, spl2w, sm_len, sm_take, sm_one, sm_spl, sm_inj, allV_map]
    intro b0 b1
    refine ⟨(xo, xcap, xs, m, s), rfl, ⟨hxd.mono (sub_now _ _), hm, hsm, by omega, hxa'⟩, fun v hv => ?_⟩
    obtain ⟨mx, rfl, ex, kx⟩ := hv.ex
    simp (maxSteps := 4000000) -dsimp [-List.all_eq_true, -Array.all_eq_true, -Bool.exists_bool, -Bool.forall_bool, and_assoc, List.zipIdx, Tryz.f3, drawMachScanC, iWatchC, sWatchC, machScanC, sMachScanC, sMemSameC, memSameC, sSureCheckC, Con.gen, -Sx.splice_two, spl2w, sm_len, sm_take, sm_one, sm_spl, sm_inj, allV_map]
    intro b2 b3
    refine ⟨(xo, xcap, xs, m, s), rfl, ⟨hxd.mono (sub_now _ _), hm, hsm, by omega, hxa'⟩, fun v hv => ?_⟩
    obtain ⟨mg, rfl, eg, kg⟩ := hv.ex
    simp (maxSteps := 4000000) -dsimp [-List.all_eq_true, -Array.all_eq_true, -Bool.exists_bool, -Bool.forall_bool, and_assoc, List.zipIdx, Tryz.f3, drawMachScanC, iWatchC, sWatchC, machScanC, sMachScanC, sMemSameC, memSameC, sSureCheckC, Con.gen, -Sx.splice_two, spl2w, sm_len, sm_take, sm_one, sm_spl, sm_inj, allV_map]
    intro b4 b5
    refine ⟨(xo, xcap, xs, m, s), rfl, ⟨hxd.mono (sub_now _ _), hm, hsm, by omega⟩, fun v hv => ?_⟩
    obtain ⟨my, rfl, ey, ky⟩ := hv.ex
    simp (maxSteps := 4000000) -dsimp [-List.all_eq_true, -Array.all_eq_true, -Bool.exists_bool, -Bool.forall_bool, and_assoc, List.zipIdx, Tryz.f3, drawMachScanC, iWatchC, sWatchC, machScanC, sMachScanC, sMemSameC, memSameC, sSureCheckC, Con.gen, -Sx.splice_two, spl2w, sm_len, sm_take, sm_one, sm_spl, sm_inj, allV_map]
    intro b6
    refine ⟨(xo, xcap, xs, m, s), rfl, ⟨hxd.mono (sub_now _ _), hm, hsm, by omega⟩, fun v hv => ?_⟩
    obtain ⟨mz, rfl, ez, kz⟩ := hv.ex
    have hyz : msB my mz = true := msB_iff.2 (ey.trans ez.symm)
    have k1 := kx
    have hyk := ky
    have hzk := kz
    rcases watch_law xs m s with ⟨q1, q2, q3⟩ | ⟨q1, q2, q3, q4, q5⟩
    · rw [q1, q2] at *
      have hxy : msB mx my = true := msB_iff.2 (ex.trans (q3.trans ey.symm))
      simp (maxSteps := 4000000) -dsimp [-List.all_eq_true, -Array.all_eq_true, -Bool.exists_bool, -Bool.forall_bool, and_assoc, List.zipIdx, Tryz.f3, drawMachScanC, iWatchC, sWatchC, machScanC, sMachScanC, sMemSameC, memSameC, sSureCheckC, Con.gen, -Sx.splice_two, spl2w, sm_len, sm_take, sm_one, sm_spl, sm_inj, allV_map, hyz, hxy, ky, kz, hw, hg]
    · rw [q3] at ex
      have hxm : msB mx m = true := msB_iff.2 ex
      generalize (watchN xs m s).2.1 = wc at *
      generalize (watchN xs m s).2.2 = wa at *
      have w1 : ¬ wc = 0 := by omega
      have w2 : 0 < (sureN xs).1 := by have := (sureN_bd xs).1; omega
      simp (maxSteps := 4000000) -dsimp [-List.all_eq_true, -Array.all_eq_true, -Bool.exists_bool, -Bool.forall_bool, and_assoc, List.zipIdx, Tryz.f3, drawMachScanC, iWatchC, sWatchC, machScanC, sMachScanC, sMemSameC, memSameC, sSureCheckC, Con.gen, -Sx.splice_two, spl2w, sm_len, sm_take, sm_one, sm_spl, sm_inj, allV_map, hyz, hxm, ky, kz, w1, w2, q4, q5, t2, hw, hg]
  · have hs1 : (1048576 : Int) < bs.length := by omega
    simp (maxSteps := 4000000) -dsimp [-List.all_eq_true, -Array.all_eq_true, -Bool.exists_bool, -Bool.forall_bool, and_assoc, List.zipIdx, Tryz.f3, drawMachScanC, iWatchC, sWatchC, machScanC, sMachScanC, sMemSameC, memSameC, sSureCheckC, hs1]
end Go.Proofs.YtfhnbdlkiemaeaaGreat
