/-
  Contracts: lists at or beyond the bounds of their stacks; what the laws of the verifier draw.
-/
import Derived.Test.YtogbbbgmhobfiaaGow2
import Derived.Test.YtogbbbgmhobfiaaGkw2
set_option linter.unusedVariables false
set_option linter.unusedSimpArgs false
set_option maxRecDepth 100000
set_option maxHeartbeats 4000000
namespace Go.Proofs.Ytogbbbgmhobfiaa
open Go Go.Sx
open List renaming all_eq_true → Y1, zipIdx → Y5
open Bool renaming exists_bool → Y3, forall_bool → Y4
attribute [local simp] Sx.vcsE1 Sx.vcsE2 Sx.vcsE3 Sx.vcsE4 Sx.vcsE5 Sx.vcsE6 Sx.vcsE7 Sx.vcsE8 Sx.vcsE9 Sx.vcsE10 Sx.vcsE11 Sx.vcsE12 Sx.vcsE13 Sx.vcsE14 Sx.vcsE15 Sx.vcsE16 Sx.vcsE17 Sx.vcsE18 Sx.vcsE19 Sx.get Sx.look Sx.put Sx.pureFn Sx.findOrd Sx.unF Sx.dstOk Sx.isFloatT Sx.endVC Sx.resFn Sx.packC Sx.newFn Sx.storeFn Sx.buildFn Sx.known Sx.aggT Sx.cellsC Sx.findCon Sx.allV Sx.partsV Sx.partsC Sx.fillL Sx.exitTo Sx.fAr Sx.eqFn Sx.eqFieldsFn Sx.eqElemsFn Sx.partFn Sx.sliceFn Sx.boundFn Sx.AppV Sx.CopyV Sx.MakeSliceV Sx.NewsV Sx.GrowV Sx.TextV Sx.bytesL Sx.notInt Sx.typeAt Sx.argAt Sx.den Go.undef Go.Value.cells Go.Value.oneCell' Sx.Con.pure Sx.Con.some Sx.Con.read Sx.Con.make Sx.Con.ext Sx.Con.rel Sx.Con.extS Sx.Con.draw Sx.Con.step Sx.C.one Sx.Draws.steps

structure OutI (F : Facts) (rs : List (List Value)) (ys : List Ins) (pad : List C) (cap : Nat) : Prop where
  rf : RdF F rs ys
  rl : rs.length = ys.length
  ar : ∀ y ∈ ys, y.args.length ≤ 4
  yc : ys.length ≤ cap
  cm : cap ≤ maxLen
  pl : (rowsC rs pad).length = cap * 3
theorem OutI.nil (F : Facts) : OutI F [] [] [] 0 := ⟨RdF.nil _ _, rfl, by simp, by simp, by decide, rfl⟩
theorem OutI.mono {F G : Facts} {rs : List (List Value)} {ys : List Ins} {pad : List C} {cap : Nat} (h : OutI F rs ys pad cap) (hs : Sub F G) : OutI G rs ys pad cap :=
  ⟨h.rf.mono hs, h.rl, h.ar, h.yc, h.cm, h.pl⟩
theorem OutI.push {F : Facts} {rs : List (List Value)} {ys : List Ins} {pad pad' : List C} {cap cap' : Nat} {r : List Value} {x : Ins} (h : OutI F rs ys pad cap) (hr : RdR F r x) (hx : x.args.length ≤ 4) (h1 : ys.length + 1 ≤ cap') (h2 : cap' ≤ maxLen) (h3 : pad'.length = (cap' - (ys.length + 1)) * 3) :
    OutI F (rs ++ [r]) (ys ++ [x]) pad' cap' := by
  have hp := RdF.push h.rf h.rl hr
  refine ⟨hp, by simp [h.rl], fun y hy => ?_, by simpa using h1, h2, ?_⟩
  · rcases List.mem_append.1 hy with h4 | h4
    · exact h.ar y h4
    · rw [List.mem_singleton] at h4; rw [h4]; exact hx
  · rw [rowsC_len hp.len]; simp [h.rl]; omega
theorem OutI.push2 {F : Facts} {rs : List (List Value)} {ys : List Ins} {pad pad' : List C} {cap cap' : Nat} {r r2 : List Value} {x x2 : Ins} (h : OutI F rs ys pad cap) (hr : RdR F r x) (hx : x.args.length ≤ 4) (hr2 : RdR F r2 x2) (hx2 : x2.args.length ≤ 4) (h1 : ys.length + 2 ≤ cap') (h2 : cap' ≤ maxLen) (h3 : pad'.length = (cap' - (ys.length + 2)) * 3) :
    OutI F (rs ++ [r, r2]) (ys ++ [x, x2]) pad' cap' := by
  have hp := RdF.push (RdF.push h.rf h.rl hr) (by simp [h.rl]) hr2
  simp only [List.append_assoc, List.cons_append, List.nil_append] at hp
  refine ⟨hp, by simp [h.rl], fun y hy => ?_, by simpa using h1, h2, ?_⟩
  · rcases List.mem_append.1 hy with h4 | h4
    · exact h.ar y h4
    · simp only [List.mem_cons, List.not_mem_nil, or_false] at h4
      rcases h4 with rfl | rfl
      · exact hx
      · exact hx2
  · rw [rowsC_len hp.len]; simp [h.rl]; omega
theorem OutI.tk {F : Facts} {rs : List (List Value)} {ys : List Ins} {pad : List C} {cap : Nat} (h : OutI F rs ys pad cap) : List.take (ys.length * 3) (rowsC rs pad) = (List.flatten rs).map C.v := by
  rw [← h.rl]; exact rowsC_take h.rf.len rfl
theorem RdR.none {F : Facts} (code op : Int) : RdR F [.int .i64 code, .int .i64 op, .slice none 0 0] ⟨code, op, []⟩ := RdR.mk ⟨Option.none, 0, rfl, RdO.nil _ _ _, by simp, by decide⟩
theorem l8DeepC_c  (R : Rdr) (p : Int) (cx : Cx) (mem : List Blk) (w : World) (hty : R.ty = 55) (hR : R.Is (factF cx) mem) (hp : 0 ≤ p) (hpc : p + 1000 ≤ 1125899906842624) (hpre : True) (hm : MemRel cx (mem.set R.k (R.blk p)) w) :
    Calls Try.prog 18 ((.p R.k R.b 0 :: [] : List C).map den).toArray w fun e w' => ∃ cx' x mem', e = .returned (den x) ∧ MemRel cx' mem' w' ∧ (fun cx' x mem' => ∃ v p', x = .v v ∧ mem' = mem.set R.k (R.blk p') ∧ Le cx cx' ∧ p ≤ p' ∧ p' ≤ p + 1000 ∧ (∃ xs, IsList (factF cx') v xs ∧ xs.length ≤ 5000 ∧ (∀ x ∈ xs, x.args.length ≤ 4))) cx' x mem' := by
  refine step_of_vcs ⟨[l4ContactC, l4CoilC, numC, pickC], []⟩ hmx Try.func18 rfl (by kernel_rfl) (args := .p R.k R.b 0 :: []) (by simp [Try.ntmps18]) hm (fun cx' x mem' => ∃ v p', x = .v v ∧ mem' = mem.set R.k (R.blk p') ∧ Le cx cx' ∧ p ≤ p' ∧ p' ≤ p + 1000 ∧ (∃ xs, IsList (factF cx') v xs ∧ xs.length ≤ 5000 ∧ (∀ x ∈ xs, x.args.length ≤ 4))) 400 ?_
  have hlt := hR.lt
  have hle := Le.refl cx
  simp (maxSteps := 4000000) -dsimp [-Y1, -Array.all_eq_true, -Y3, -Y4, and_assoc, Y5, Try.f18, l4ContactC, l4CoilC, numC, pickC, hlt]
  intro b0
  refine l4ContactC_at hR hty hle ⟨by omega, by omega⟩ trivial ?_
  rintro cx1 _ p1 hle1 - q1 q2 ⟨aop, axs, ⟨⟨ao, acap, rfl, ahd, ahc1, ahc2⟩⟩, ahl⟩
  simp (maxSteps := 4000000) -dsimp [-Y1, -Array.all_eq_true, -Y3, -Y4, and_assoc, Y5, Try.f18, l4ContactC, l4CoilC, numC, pickC, hlt]
  intro b1
  refine l4CoilC_at hR hty hle1 ⟨by omega, by omega⟩ trivial ?_
  rintro cx2 _ p2 hle2 l2 q3 q4 ⟨cop, cxs, ⟨⟨co, ccap, rfl, chd, chc1, chc2⟩⟩, chl⟩
  simp (maxSteps := 4000000) -dsimp [-Y1, -Array.all_eq_true, -Y3, -Y4, and_assoc, Y5, Try.f18, l4ContactC, l4CoilC, numC, pickC, hlt]
  intro b2 cx3 lq hle3 hl3
  refine numC_lit hR hty (hle2.trans hle3) hl3 rfl rfl ⟨by omega, by omega⟩ (by decide) (by decide) ?_
  rintro cx4 _ p4 hle4 l4 q5 q6 ⟨n, rfl, hn⟩
  have hnb : 15 ≤ n ∧ n ≤ 17 := by simp [intsOf] at hn; omega
  simp (maxSteps := 4000000) -dsimp [-Y1, -Array.all_eq_true, -Y3, -Y4, and_assoc, Y5, Try.f18, l4ContactC, l4CoilC, numC, pickC, hlt]
  refine pickC_at hR hty hle4 ⟨by omega, by omega⟩ (by omega) ?_
  rintro cx5 _ p5 hle5 l5 q7 q8 ⟨y, rfl, y0, y1⟩
  have hA : RdR (factF cx5) [.int .i64 1, .int .i64 aop, .slice ao axs.length acap] ⟨1, aop, axs⟩ := RdR.mk ⟨ao, acap, rfl, ahd.mono (l2.trans (hle3.trans (l4.trans l5))).fact, ahc1, ahc2⟩
  have hC : RdR (factF cx5) [.int .i64 10, .int .i64 cop, .slice co cxs.length ccap] ⟨10, cop, cxs⟩ := RdR.mk ⟨co, ccap, rfl, chd.mono (hle3.trans (l4.trans l5)).fact, chc1, chc2⟩
  by_cases hy : y = 0
  · subst hy
    simp (maxSteps := 4000000) -dsimp [-Y1, -Array.all_eq_true, -Y3, -Y4, and_assoc, Y5, Try.f18, l4ContactC, l4CoilC, numC, pickC, hlt]
    refine loop_inv (σ := ⟨[l4ContactC, l4CoilC, numC, pickC], []⟩) hmx (by kernel_rfl) (fun q cx' tm mem' => Le cx5 cx' ∧ ∃ (i bX capX : Nat) (rs : List (List Value)) (ys : List Ins) (padX : List C) (p' : Int), 0 ≤ i ∧ (i : Int) ≤ n ∧ q = n.toNat - i ∧ (ys.length : Int) = (i : Int) ∧ OutI (factF cx') rs ys padX capX ∧ mem' = mem.set R.k (R.blk p') ++ [⟨bX, rowsC rs padX, 37⟩, ⟨b1, [.v (.int .i64 1), .v (.int .i64 aop), .v (.slice ao axs.length acap)], 37⟩, ⟨b2, [.v (.int .i64 10), .v (.int .i64 cop), .v (.slice co cxs.length ccap)], 37⟩] ∧ p ≤ p' ∧ p' ≤ p + 210 + i ∧ Sx.look tm 7 = .v (.int .i64 i) ∧ Sx.look tm 6 = .v (.int .i64 n) ∧ Sx.look tm 3 = .s mem.length bX 0 ys.length capX ∧ Sx.look tm 4 = .p (mem.length + 1) b1 0 ∧ Sx.look tm 5 = .p (mem.length + 2) b2 0 ∧ Sx.look tm 0 = .p R.k R.b 0)
      (n.toNat - 0) ⟨Le.refl _, 0, b0, 0, [], [], [], p5, by omega, by omega, rfl, by simp, OutI.nil _, rfl, by omega, by omega, by simp [Sx.look], by simp [Sx.look], by simp [Sx.look], by simp [Sx.look], by simp [Sx.look], by simp [Sx.look]⟩ ?_
    rintro q cx6 tm6 mem6 ⟨hle6, i6, bX6, capX6, rs6, ys6, padX6, p6, i06, i16, rfl, hy6, ho6, rfl, e06, e16, ji6, j66, j36, j46, j56, j06⟩
    refine ⟨400, ?_⟩
    have hrt6 := ho6.tk
    have hpl6 := ho6.pl
    have hyc6 := ho6.yc
    have hcm6 := ho6.cm
    by_cases hin : (i6 : Int) < n
    · simp (maxSteps := 4000000) -dsimp [-Y1, -Array.all_eq_true, -Y3, -Y4, and_assoc, Y5, Try.f18, l4ContactC, l4CoilC, numC, pickC, hlt, ji6, j66, j36, j46, j56, j06, hrt6, hpl6, hyc6, hcm6, hin]
      intro cx7 lit hle7 hl7
      rw [RdO.sl (size := 3) (rows := [[.int .i64 1, .int .i64 aop, .slice ao axs.length acap]]) ((hl7.mono ((sub_new cx7).trans (sub_now _ _))).rows (by decide) (by simp) (by simp)) (by decide) (by simp)]
      unfold GrowV
      have hml : ys6.length + 1 ≤ maxLen := by unfold maxLen; omega
      simp (maxSteps := 4000000) -dsimp [-Y1, -Array.all_eq_true, -Y3, -Y4, and_assoc, Y5, Try.f18, l4ContactC, l4CoilC, numC, pickC, hlt, ji6, j66, j36, j46, j56, j06, hrt6, hpl6, hyc6, hcm6, hml, i_succ (i := i6) (by omega)]
      refine ⟨by omega, fun b8 cap8 pad8 d1 d2 d3 => ?_⟩
      have hp := (ho6.mono hle7.fact).push (hA.mono (hle6.trans hle7).fact) (by simp only; omega) d1 d2 d3
      exact ⟨mem.length + 3, n.toNat - (i6 + 1), by omega, hle6.trans hle7, i6 + 1, by omega, rfl, b8, cap8, rs6 ++ [[.int .i64 1, .int .i64 aop, .slice ao axs.length acap]], ys6 ++ [⟨1, aop, axs⟩], by simp; omega, pad8, hp, p6, by rw [List.take_of_length_le (by simp)]; simp [rowsC], by omega, by omega, by omega, rfl, by simp, rfl⟩
    · simp (maxSteps := 4000000) -dsimp [-Y1, -Array.all_eq_true, -Y3, -Y4, and_assoc, Y5, Try.f18, l4ContactC, l4CoilC, numC, pickC, hlt, ji6, j66, j36, j46, j56, j06, hrt6, hpl6, hyc6, hcm6, hin]
      refine loop_inv (σ := ⟨[l4ContactC, l4CoilC, numC, pickC], []⟩) hmx (by kernel_rfl) (fun q cx' tm mem' => Le cx6 cx' ∧ ∃ (i bX capX : Nat) (rs : List (List Value)) (ys : List Ins) (padX : List C) (p' : Int), 1 ≤ i ∧ (i : Int) ≤ n ∧ q = n.toNat - i ∧ (ys.length : Int) = n + (i : Int) - 1 ∧ OutI (factF cx') rs ys padX capX ∧ mem' = mem.set R.k (R.blk p') ++ [⟨bX, rowsC rs padX, 37⟩, ⟨b1, [.v (.int .i64 1), .v (.int .i64 aop), .v (.slice ao axs.length acap)], 37⟩, ⟨b2, [.v (.int .i64 10), .v (.int .i64 cop), .v (.slice co cxs.length ccap)], 37⟩] ∧ p ≤ p' ∧ p' ≤ p + 240 + i ∧ Sx.look tm 8 = .v (.int .i64 i) ∧ Sx.look tm 6 = .v (.int .i64 n) ∧ Sx.look tm 3 = .s mem.length bX 0 ys.length capX ∧ Sx.look tm 4 = .p (mem.length + 1) b1 0 ∧ Sx.look tm 5 = .p (mem.length + 2) b2 0 ∧ Sx.look tm 0 = .p R.k R.b 0)
        (n.toNat - 1) ⟨Le.refl _, 1, bX6, capX6, rs6, ys6, padX6, p6, by omega, by omega, rfl, by omega, ho6, rfl, by omega, by omega, by simp [Sx.look], by first | exact j66 | simp [Sx.look, j66], by first | exact j36 | simp [Sx.look, j36], by first | exact j46 | simp [Sx.look, j46], by first | exact j56 | simp [Sx.look, j56], by first | exact j06 | simp [Sx.look, j06]⟩ ?_
      rintro q cx7 tm7 mem7 ⟨hle7, i7, bX7, capX7, rs7, ys7, padX7, p7, i07, i17, rfl, hy7, ho7, rfl, e07, e17, ji7, j67, j37, j47, j57, j07⟩
      refine ⟨400, ?_⟩
      have hrt7 := ho7.tk
      have hpl7 := ho7.pl
      have hyc7 := ho7.yc
      have hcm7 := ho7.cm
      by_cases hin7 : (i7 : Int) < n
      · simp (maxSteps := 4000000) -dsimp [-Y1, -Array.all_eq_true, -Y3, -Y4, and_assoc, Y5, Try.f18, l4ContactC, l4CoilC, numC, pickC, hlt, ji7, j67, j37, j47, j57, j07, hrt7, hpl7, hyc7, hcm7, hin7]
        refine pickC_at hR hty (hle5.trans (hle6.trans hle7)) ⟨by omega, by omega⟩ (by omega) ?_
        rintro cx8 _ p8 - hle8 r1 r2 ⟨v, rfl, v0, v1⟩
        simp (maxSteps := 4000000) -dsimp [-Y1, -Array.all_eq_true, -Y3, -Y4, and_assoc, Y5, Try.f18, l4ContactC, l4CoilC, numC, pickC, hlt, ji7, j67, j37, j47, j57, j07, hrt7, hpl7, hyc7, hcm7, hin7]
        intro cx9 lit hle9 hl9
        rw [RdO.sl (size := 3) (rows := [[.int .i64 (IntKind.i64.wrap (4 + v)), .int .i64 0, .slice none 0 0]]) ((hl9.mono ((sub_new cx9).trans (sub_now _ _))).rows (by decide) (by simp) (by simp)) (by decide) (by simp)]
        unfold GrowV
        have hml : ys7.length + 1 ≤ maxLen := by unfold maxLen; omega
        simp (maxSteps := 4000000) -dsimp [-Y1, -Array.all_eq_true, -Y3, -Y4, and_assoc, Y5, Try.f18, l4ContactC, l4CoilC, numC, pickC, hlt, ji7, j67, j37, j47, j57, j07, hrt7, hpl7, hyc7, hcm7, hml, i_succ (i := i7) (by omega)]
        refine ⟨by omega, fun b8 cap8 pad8 d1 d2 d3 => ?_⟩
        have hp := (ho7.mono (hle8.trans hle9).fact).push (RdR.none (IntKind.i64.wrap (4 + v)) 0) (by simp) d1 d2 d3
        exact ⟨mem.length + 3, n.toNat - (i7 + 1), by omega, hle7.trans (hle8.trans hle9), i7 + 1, by omega, by omega, rfl, b8, cap8, rs7 ++ [_], ys7 ++ [_], by simp; omega, pad8, hp, p8, by rw [List.take_of_length_le (by simp)]; simp [rowsC], by omega, by omega, by omega, rfl, by simp, rfl⟩
      · simp (maxSteps := 4000000) -dsimp [-Y1, -Array.all_eq_true, -Y3, -Y4, and_assoc, Y5, Try.f18, l4ContactC, l4CoilC, numC, pickC, hlt, ji7, j67, j37, j47, j57, j07, hrt7, hpl7, hyc7, hcm7, hin7]
        intro cx10 lit hlcx10 hlq
        rw [RdO.sl (size := 3) (rows := [[.int .i64 10, .int .i64 cop, .slice co cxs.length ccap], [.int .i64 11, .int .i64 0, .slice none 0 0]]) ((hlq.mono ((sub_new cx10).trans (sub_now _ _))).rows (by decide) (by simp) (by simp)) (by decide) (by simp)]
        unfold GrowV
        have hml : ys7.length + 2 ≤ maxLen := by unfold maxLen; omega
        simp (maxSteps := 4000000) -dsimp [-Y1, -Array.all_eq_true, -Y3, -Y4, and_assoc, Y5, Try.f18, l4ContactC, l4CoilC, numC, pickC, hlt, ji7, j67, j37, j47, j57, j07, hrt7, hpl7, hyc7, hcm7, hml]
        refine ⟨by omega, fun b9 cap9 pad9 m1 m2 m3 => ?_⟩
        have hE := hle5.trans ((hle6.trans hle7).trans hlcx10)
        have hq := (ho7.mono hlcx10.fact).push2 (hC.mono ((hle6.trans hle7).trans hlcx10).fact) (by simp only; omega) (RdR.none 11 0) (by simp) m1 m2 m3
        exact EndK.facts fun cxz hlz hfz => ⟨_, _, rfl, rfl, hE.trans hlz, by omega, by omega, ys7 ++ [⟨10, cop, cxs⟩, ⟨11, 0, []⟩], list_end (rows := rs7 ++ [[.int .i64 10, .int .i64 cop, .slice co cxs.length ccap], [.int .i64 11, .int .i64 0, .slice none 0 0]]) (pad := pad9) (fun off c hc => hfz _ List.mem_cons_self off c (by simpa [rowsC] using hc)) (hq.rf.mono hlz.fact) hq.rl (by simp) m1 m2, by simp; omega, hq.ar⟩
  · clear hn hnb
    simp (maxSteps := 4000000) -dsimp [-Y1, -Array.all_eq_true, -Y3, -Y4, and_assoc, Y5, Try.f18, l4ContactC, l4CoilC, numC, pickC, hlt, hy]
    intro cx6 lq6 hle6 hl6
    refine numC_lit hR hty (hle5.trans hle6) hl6 rfl rfl ⟨by omega, by omega⟩ (by decide) (by decide) ?_
    rintro cx7 _ p7 hleR hle7 q9 q10 ⟨n, rfl, hn⟩
    have hnb : 7 ≤ n ∧ n ≤ 9 := by simp [intsOf] at hn; omega
    simp (maxSteps := 4000000) -dsimp [-Y1, -Array.all_eq_true, -Y3, -Y4, and_assoc, Y5, Try.f18, l4ContactC, l4CoilC, numC, pickC, hlt]
    intro cx8 lit hle8 hl8
    rw [RdO.sl (size := 3) (rows := [[.int .i64 1, .int .i64 aop, .slice ao axs.length acap]]) ((hl8.mono ((sub_new cx8).trans (sub_now _ _))).rows (by decide) (by simp) (by simp)) (by decide) (by simp)]
    unfold GrowV
    simp (maxSteps := 4000000) -dsimp [-Y1, -Array.all_eq_true, -Y3, -Y4, and_assoc, Y5, Try.f18, l4ContactC, l4CoilC, numC, pickC, hlt]
    refine ⟨by decide, fun b8 cap8 pad8 d1 d2 d3 => ?_⟩
    have hE8 := hleR.trans hle8
    have hA8 := hA.mono (hle6.trans (hle7.trans hle8)).fact
    have hC8 := hC.mono (hle6.trans (hle7.trans hle8)).fact
    have ho8 := (OutI.nil (factF cx8)).push hA8 (by simp only; omega) d1 d2 d3
    simp only [List.nil_append] at ho8
    refine loop_inv (σ := ⟨[l4ContactC, l4CoilC, numC, pickC], []⟩) hmx (by kernel_rfl) (fun q cx' tm mem' => Le cx8 cx' ∧ ∃ (i bX capX : Nat) (rs : List (List Value)) (ys : List Ins) (padX : List C) (p' : Int), 0 ≤ i ∧ (i : Int) ≤ n ∧ q = n.toNat - i ∧ (ys.length : Int) = 1 + (i : Int) ∧ OutI (factF cx') rs ys padX capX ∧ mem' = mem.set R.k (R.blk p') ++ [⟨bX, rowsC rs padX, 37⟩, ⟨b1, [.v (.int .i64 1), .v (.int .i64 aop), .v (.slice ao axs.length acap)], 37⟩, ⟨b2, [.v (.int .i64 10), .v (.int .i64 cop), .v (.slice co cxs.length ccap)], 37⟩] ∧ p ≤ p' ∧ p' ≤ p + 230 + i ∧ Sx.look tm 9 = .v (.int .i64 i) ∧ Sx.look tm 6 = .v (.int .i64 n) ∧ Sx.look tm 3 = .s mem.length bX 0 ys.length capX ∧ Sx.look tm 4 = .p (mem.length + 1) b1 0 ∧ Sx.look tm 5 = .p (mem.length + 2) b2 0 ∧ Sx.look tm 0 = .p R.k R.b 0)
      (n.toNat - 0) ⟨Le.refl _, 0, b8, cap8, _, _, pad8, p7, by omega, by omega, rfl, by simp, ho8, by simp [rowsC], by omega, by omega, by simp [Sx.look], by simp [Sx.look], by simp [Sx.look], by simp [Sx.look], by simp [Sx.look], by simp [Sx.look]⟩ ?_
    rintro q cx9 tm9 mem9 ⟨hle9, i9, bX9, capX9, rs9, ys9, padX9, p9, i09, i19, rfl, hy9, ho9, rfl, e09, e19, ji9, j69, j39, j49, j59, j09⟩
    refine ⟨400, ?_⟩
    have hrt9 := ho9.tk
    have hpl9 := ho9.pl
    have hyc9 := ho9.yc
    have hcm9 := ho9.cm
    by_cases hin9 : (i9 : Int) < n
    · simp (maxSteps := 4000000) -dsimp [-Y1, -Array.all_eq_true, -Y3, -Y4, and_assoc, Y5, Try.f18, l4ContactC, l4CoilC, numC, pickC, hlt, ji9, j69, j39, j49, j59, j09, hrt9, hpl9, hyc9, hcm9, hin9]
      intro cx10 lit hle10 hl10
      rw [RdO.sl (size := 3) (rows := [[.int .i64 7, .int .i64 0, .slice none 0 0]]) ((hl10.mono ((sub_new cx10).trans (sub_now _ _))).rows (by decide) (by simp) (by simp)) (by decide) (by simp)]
      unfold GrowV
      have hml : ys9.length + 1 ≤ maxLen := by unfold maxLen; omega
      simp (maxSteps := 4000000) -dsimp [-Y1, -Array.all_eq_true, -Y3, -Y4, and_assoc, Y5, Try.f18, l4ContactC, l4CoilC, numC, pickC, hlt, ji9, j69, j39, j49, j59, j09, hrt9, hpl9, hyc9, hcm9, hml, i_succ (i := i9) (by omega)]
      refine ⟨by omega, fun b8 cap8 pad8 d1 d2 d3 => ?_⟩
      have hp := (ho9.mono hle10.fact).push (RdR.none 7 0) (by simp) d1 d2 d3
      exact ⟨mem.length + 3, n.toNat - (i9 + 1), by omega, hle9.trans hle10, i9 + 1, by omega, rfl, b8, cap8, rs9 ++ [_], ys9 ++ [_], by simp; omega, pad8, hp, p9, by rw [List.take_of_length_le (by simp)]; simp [rowsC], by omega, by omega, by omega, rfl, by simp, rfl⟩
    · simp (maxSteps := 4000000) -dsimp [-Y1, -Array.all_eq_true, -Y3, -Y4, and_assoc, Y5, Try.f18, l4ContactC, l4CoilC, numC, pickC, hlt, ji9, j69, j39, j49, j59, j09, hrt9, hpl9, hyc9, hcm9, hin9]
      refine loop_inv (σ := ⟨[l4ContactC, l4CoilC, numC, pickC], []⟩) hmx (by kernel_rfl) (fun q cx' tm mem' => Le cx9 cx' ∧ ∃ (i bX capX : Nat) (rs : List (List Value)) (ys : List Ins) (padX : List C) (p' : Int), 0 ≤ i ∧ (i : Int) ≤ n ∧ q = n.toNat - i ∧ (ys.length : Int) = 1 + n + 2 * (i : Int) ∧ OutI (factF cx') rs ys padX capX ∧ mem' = mem.set R.k (R.blk p') ++ [⟨bX, rowsC rs padX, 37⟩, ⟨b1, [.v (.int .i64 1), .v (.int .i64 aop), .v (.slice ao axs.length acap)], 37⟩, ⟨b2, [.v (.int .i64 10), .v (.int .i64 cop), .v (.slice co cxs.length ccap)], 37⟩] ∧ p ≤ p' ∧ p' ≤ p + 260 + i ∧ Sx.look tm 10 = .v (.int .i64 i) ∧ Sx.look tm 6 = .v (.int .i64 n) ∧ Sx.look tm 3 = .s mem.length bX 0 ys.length capX ∧ Sx.look tm 4 = .p (mem.length + 1) b1 0 ∧ Sx.look tm 5 = .p (mem.length + 2) b2 0 ∧ Sx.look tm 0 = .p R.k R.b 0)
        (n.toNat - 0) ⟨Le.refl _, 0, bX9, capX9, rs9, ys9, padX9, p9, by omega, by omega, rfl, by omega, ho9, rfl, by omega, by omega, by simp [Sx.look], by first | exact j69 | simp [Sx.look, j69], by first | exact j39 | simp [Sx.look, j39], by first | exact j49 | simp [Sx.look, j49], by first | exact j59 | simp [Sx.look, j59], by first | exact j09 | simp [Sx.look, j09]⟩ ?_
      rintro q cx11 tm11 mem11 ⟨hle11, i11, bX11, capX11, rs11, ys11, padX11, p11, i011, i111, rfl, hy11, ho11, rfl, e011, e111, ji11, j611, j311, j411, j511, j011⟩
      refine ⟨400, ?_⟩
      have hrt11 := ho11.tk
      have hpl11 := ho11.pl
      have hyc11 := ho11.yc
      have hcm11 := ho11.cm
      by_cases hin11 : (i11 : Int) < n
      · simp (maxSteps := 4000000) -dsimp [-Y1, -Array.all_eq_true, -Y3, -Y4, and_assoc, Y5, Try.f18, l4ContactC, l4CoilC, numC, pickC, hlt, ji11, j611, j311, j411, j511, j011, hrt11, hpl11, hyc11, hcm11, hin11]
        intro cx12 lit hle12 hl12
        rw [RdO.sl (size := 3) (rows := [[.int .i64 10, .int .i64 cop, .slice co cxs.length ccap], [.int .i64 9, .int .i64 0, .slice none 0 0]]) ((hl12.mono ((sub_new cx12).trans (sub_now _ _))).rows (by decide) (by simp) (by simp)) (by decide) (by simp)]
        unfold GrowV
        have hml : ys11.length + 2 ≤ maxLen := by unfold maxLen; omega
        simp (maxSteps := 4000000) -dsimp [-Y1, -Array.all_eq_true, -Y3, -Y4, and_assoc, Y5, Try.f18, l4ContactC, l4CoilC, numC, pickC, hlt, ji11, j611, j311, j411, j511, j011, hrt11, hpl11, hyc11, hcm11, hml, i_succ (i := i11) (by omega)]
        refine ⟨by omega, fun b8 cap8 pad8 d1 d2 d3 => ?_⟩
        have hp := (ho11.mono hle12.fact).push2 (hC8.mono (hle9.trans (hle11.trans hle12)).fact) (by simp only; omega) (RdR.none 9 0) (by simp) d1 d2 d3
        exact ⟨mem.length + 3, n.toNat - (i11 + 1), by omega, hle11.trans hle12, i11 + 1, by omega, rfl, b8, cap8, rs11 ++ [_, _], ys11 ++ [_, _], by simp; omega, pad8, hp, p11, by rw [List.take_of_length_le (by simp)]; simp [rowsC], by omega, by omega, by omega, rfl, by simp, rfl⟩
      · simp (maxSteps := 4000000) -dsimp [-Y1, -Array.all_eq_true, -Y3, -Y4, and_assoc, Y5, Try.f18, l4ContactC, l4CoilC, numC, pickC, hlt, ji11, j611, j311, j411, j511, j011, hrt11, hpl11, hyc11, hcm11, hin11]
        intro cx13 lit hlcx13 hlq
        rw [RdO.sl (size := 3) (rows := [[.int .i64 10, .int .i64 cop, .slice co cxs.length ccap], [.int .i64 11, .int .i64 0, .slice none 0 0]]) ((hlq.mono ((sub_new cx13).trans (sub_now _ _))).rows (by decide) (by simp) (by simp)) (by decide) (by simp)]
        unfold GrowV
        have hml : ys11.length + 2 ≤ maxLen := by unfold maxLen; omega
        simp (maxSteps := 4000000) -dsimp [-Y1, -Array.all_eq_true, -Y3, -Y4, and_assoc, Y5, Try.f18, l4ContactC, l4CoilC, numC, pickC, hlt, ji11, j611, j311, j411, j511, j011, hrt11, hpl11, hyc11, hcm11, hml]
        refine ⟨by omega, fun b9 cap9 pad9 m1 m2 m3 => ?_⟩
        have hE := hE8.trans ((hle9.trans hle11).trans hlcx13)
        have hq := (ho11.mono hlcx13.fact).push2 (hC8.mono ((hle9.trans hle11).trans hlcx13).fact) (by simp only; omega) (RdR.none 11 0) (by simp) m1 m2 m3
        exact EndK.facts fun cxz hlz hfz => ⟨_, _, rfl, rfl, hE.trans hlz, by omega, by omega, ys11 ++ [⟨10, cop, cxs⟩, ⟨11, 0, []⟩], list_end (rows := rs11 ++ [[.int .i64 10, .int .i64 cop, .slice co cxs.length ccap], [.int .i64 11, .int .i64 0, .slice none 0 0]]) (pad := pad9) (fun off c hc => hfz _ List.mem_cons_self off c (by simpa [rowsC] using hc)) (hq.rf.mono hlz.fact) hq.rl (by simp) m1 m2, by simp; omega, hq.ar⟩
def l8DeepC_S : Draws Try.prog 55 1000 18 where
  ι := Unit
  A := fun (_u : Unit) => []
  pre := fun (_u : Unit) (F : Facts) => True
  post := fun (_u : Unit) (v : Value) (F : Facts) => ∃ xs, IsList F v xs ∧ xs.length ≤ 5000 ∧ (∀ x ∈ xs, x.args.length ≤ 4)
  mono := fun _ _ _ _ _ => trivial
  enter := Try.call18
  h := fun _u R p cx mem w h1 h2 h3 h4 h5 h6 => l8DeepC_c  R p cx mem w h1 h2 h3 h4 h5 h6
def l8DeepC : Con Try.prog := Con.draw l8DeepC_S
theorem l8DeepC_at0  {d : Nat} {R : Rdr} {cx0 cx : Cx} {mem0 : List Blk} {K : Cx → C → List Blk → Prop} {p : Int} (hR : R.Is (factF cx0) mem0) (hty : R.ty = 55) (hle : Le cx0 cx) (hp : 0 ≤ p ∧ p + 1000 ≤ 1125899906842624) (hpre : True)
    (h : ∀ cx' v p', Le cx0 cx' → Le cx cx' → p ≤ p' → p' ≤ p + 1000 → (∃ xs, IsList (factF cx') v xs ∧ xs.length ≤ 5000 ∧ (∀ x ∈ xs, x.args.length ≤ 4)) → K cx' (.v v) (mem0.set R.k (R.blk p'))) :
    DrawV d l8DeepC_S cx [.p R.k R.b 0] (mem0.set R.k (R.blk p)) K := DrawV.at0 (S := l8DeepC_S) hR hty hle () hp hpre h
theorem open_eq {mem mem0 : List Blk} {k : Nat} (h1 : mem0.take mem.length = mem) (h2 : k = mem.length) (h3 : mem0.length = mem.length + 1) (X : Blk) : mem0.set k X = mem ++ [X] := by
  subst h2
  rw [List.set_eq_take_append_cons_drop, if_pos (by omega), h1, List.drop_eq_nil_of_le (by omega)]
theorem l8HalfC_c (o : Option Addr) (cap : Nat) (bs : List Int) (cx : Cx) (mem : List Blk) (w : World) (hpre : RdB (factF cx) o bs ∧ (∀ b ∈ bs, 0 ≤ b ∧ b < 256) ∧ bs.length ≤ cap ∧ cap ≤ maxLen) (hm : MemRel cx mem w) :
    Calls Try.prog 9 (([.v (.slice o bs.length cap)] : List C).map den).toArray w fun e w' => ∃ cx' c mem', e = .returned (den c) ∧ MemRel cx' mem' w' ∧ Le cx cx' ∧ mem' = mem ∧ ∃ v xs, c = .v v ∧ IsList (factF cx') v xs ∧ List.length xs ≤ 7000 ∧ (∀ x ∈ xs, x.args.length ≤ 4) := by
  refine step_of_vcs ⟨[l10OpenC, pickC, l8DeepC, l7SureC, l7SpoilC, l7InstC], []⟩ hmx Try.func9 rfl (by kernel_rfl) (args := [.v (.slice o bs.length cap)]) (by simp [Try.ntmps9]) hm (fun cx' c mem' => Le cx cx' ∧ mem' = mem ∧ ∃ v xs, c = .v v ∧ IsList (factF cx') v xs ∧ List.length xs ≤ 7000 ∧ (∀ x ∈ xs, x.args.length ≤ 4)) 400 ?_
  simp (maxSteps := 4000000) -dsimp [-Y1, -Array.all_eq_true, -Y3, -Y4, and_assoc, Y5, Try.f9, l10OpenC, pickC, l8DeepC, l7SureC, l7SpoilC, l7InstC, Con.gen]
  refine l10OpenC_at hpre ?_
  rintro cx1 c mem1 ⟨R, mem0, p, rfl, rfl, hp, hR, hty, hle1, h1, h2, h3⟩
  have hlt := hR.lt
  have hle := Le.refl cx1
  have fin : ∀ {cx' : Cx} {p' : Int} {v : Value} {xs : List Ins} {ex : List Blk}, Le cx1 cx' → IsList (factF cx') v xs → xs.length ≤ 7000 → (∀ x ∈ xs, x.args.length ≤ 4) →
      EndK 2 (fun cx' c mem' => Le cx cx' ∧ mem' = mem ∧ ∃ v xs, c = .v v ∧ IsList (factF cx') v xs ∧ List.length xs ≤ 7000 ∧ (∀ x ∈ xs, x.args.length ≤ 4)) cx' (.v v) (mem0.set R.k (R.blk p') ++ ex) := by
    intro cx' p' v xs ex g1 g2 g3 g4
    rw [open_eq h1 h2 h3, List.append_assoc]
    exact EndK.left ⟨hle1.trans g1, rfl, v, xs, rfl, g2, g3, g4⟩
  have fin0 : ∀ {cx' : Cx} {p' : Int} {v : Value} {xs : List Ins}, Le cx1 cx' → IsList (factF cx') v xs → xs.length ≤ 7000 → (∀ x ∈ xs, x.args.length ≤ 4) →
      EndK 2 (fun cx' c mem' => Le cx cx' ∧ mem' = mem ∧ ∃ v xs, c = .v v ∧ IsList (factF cx') v xs ∧ List.length xs ≤ 7000 ∧ (∀ x ∈ xs, x.args.length ≤ 4)) cx' (.v v) (mem0.set R.k (R.blk p')) := by
    intro cx' p' v xs g1 g2 g3 g4
    rw [open_eq h1 h2 h3]
    exact EndK.left ⟨hle1.trans g1, rfl, v, xs, rfl, g2, g3, g4⟩
  simp (maxSteps := 4000000) -dsimp [-Y1, -Array.all_eq_true, -Y3, -Y4, and_assoc, Y5, Try.f9, l10OpenC, pickC, l8DeepC, l7SureC, l7SpoilC, l7InstC, hlt]
  refine pickC_at0 hR hty hle ⟨by omega, by omega⟩ (by omega) ?_
  rintro cx2 _ p2 hle2 l2 c1 c2 ⟨y, rfl, y0, y1⟩
  by_cases e0 : y = 0
  · subst e0
    simp (maxSteps := 4000000) -dsimp [-Y1, -Array.all_eq_true, -Y3, -Y4, and_assoc, Y5, Try.f9, l10OpenC, pickC, l8DeepC, l7SureC, l7SpoilC, l7InstC, hlt]
    refine l8DeepC_at0 hR hty hle2 ⟨by omega, by omega⟩ trivial ?_
    rintro cx3 v p3 hle3 l3 c3 c4 ⟨xs, hx, hxl, hxa⟩
    simp (maxSteps := 4000000) -dsimp [-Y1, -Array.all_eq_true, -Y3, -Y4, and_assoc, Y5, Try.f9, l10OpenC, pickC, l8DeepC, l7SureC, l7SpoilC, l7InstC, hlt]
    exact fin0 hle3 hx (by omega) hxa
  by_cases e1 : y = 1 ∨ y = 2 ∨ y = 3
  · have key : True := trivial
    rcases e1 with rfl | rfl | rfl
    all_goals
      simp (maxSteps := 4000000) -dsimp [-Y1, -Array.all_eq_true, -Y3, -Y4, and_assoc, Y5, Try.f9, l10OpenC, pickC, l8DeepC, l7SureC, l7SpoilC, l7InstC, hlt]
      refine l7SureC_at0 hR hty hle2 ⟨by omega, by omega⟩ trivial ?_
      rintro cx3 _ p3 hle3 l3 c3 c4 ⟨xs, ⟨⟨xo, xcap, rfl, hxd, hxc, hxm⟩⟩, hxl, hxa⟩
      simp (maxSteps := 4000000) -dsimp [-Y1, -Array.all_eq_true, -Y3, -Y4, and_assoc, Y5, Try.f9, l10OpenC, pickC, l8DeepC, l7SureC, l7SpoilC, l7InstC, hlt]
      refine l7SpoilC_at0 (L := 5000) (A := 3) hR hty hle3 ⟨by omega, by omega⟩ ⟨hxd, hxl, hxa, by decide, by decide, by decide⟩ ?_
      rintro cx4 v p4 hle4 l4 c5 c6 ⟨ys, hy, hyl, hya⟩
      simp (maxSteps := 4000000) -dsimp [-Y1, -Array.all_eq_true, -Y3, -Y4, and_assoc, Y5, Try.f9, l10OpenC, pickC, l8DeepC, l7SureC, l7SpoilC, l7InstC, hlt]
      exact fin0 hle4 hy (by omega) hya
  by_cases e4 : y = 4
  · subst e4
    simp (maxSteps := 4000000) -dsimp [-Y1, -Array.all_eq_true, -Y3, -Y4, and_assoc, Y5, Try.f9, l10OpenC, pickC, l8DeepC, l7SureC, l7SpoilC, l7InstC, hlt]
    intro b
    refine pickC_at hR hty hle2 ⟨by omega, by omega⟩ (by omega) ?_
    rintro cx3 _ p3 hle3 l3 c3 c4 ⟨n, rfl, n0, n1⟩
    simp (maxSteps := 4000000) -dsimp [-Y1, -Array.all_eq_true, -Y3, -Y4, and_assoc, Y5, Try.f9, l10OpenC, pickC, l8DeepC, l7SureC, l7SpoilC, l7InstC, hlt]
    refine loop_inv (σ := ⟨[l10OpenC, pickC, l8DeepC, l7SureC, l7SpoilC, l7InstC], []⟩) hmx (by kernel_rfl) (fun q cx' tm mem' => Le cx1 cx' ∧ ∃ (i : Int) (bX capX : Nat) (rs : List (List Value)) (ys : List Ins) (padX : List C) (p' : Int), 0 ≤ i ∧ i ≤ n ∧ q = i.toNat ∧ (ys.length : Int) = n - i ∧ OutI (factF cx') rs ys padX capX ∧ mem' = mem0.set R.k (R.blk p') ++ [⟨bX, rowsC rs padX, 37⟩] ∧ 0 ≤ p' ∧ p' ≤ 10 + 120 * (n - i) ∧ Sx.look tm 5 = .v (.int .i64 i) ∧ Sx.look tm 4 = .s mem0.length bX 0 ys.length capX ∧ Sx.look tm 3 = .p R.k R.b 0)
      n.toNat ⟨hle3, n, b, 0, [], [], [], p3, by omega, by omega, rfl, by simp, OutI.nil _, rfl, by omega, by omega, by simp [Sx.look], by simp [Sx.look], by simp [Sx.look]⟩ ?_
    rintro q cx4 tm mem4 ⟨hle4, i, bX, capX, rs, ys, padX, p4, i0, i1, rfl, hy4, ho4, rfl, e5, e6, j5, j4, j3⟩
    refine ⟨400, ?_⟩
    have hrt := ho4.tk
    have hpl := ho4.pl
    have hyc := ho4.yc
    have hcm := ho4.cm
    by_cases hi : 0 < i
    · simp (maxSteps := 4000000) -dsimp [-Y1, -Array.all_eq_true, -Y3, -Y4, and_assoc, Y5, Try.f9, l10OpenC, pickC, l8DeepC, l7SureC, l7SpoilC, l7InstC, hlt, j5, j4, j3, hi, Con.gen]
      refine l7InstC_at hR hty hle4 ⟨by omega, by omega⟩ trivial ?_
      rintro cx5 _ p5 hle5 l5 r1 r2 ⟨⟨ic, iop, ixs⟩, ⟨⟨io, icap, rfl, ihd, ihc1, ihc2⟩⟩, ihl⟩
      have hw : IntKind.i64.wrap (i - 1) = i - 1 := wrap_i64 (by omega) (by omega)
      simp (maxSteps := 4000000) -dsimp [-Y1, -Array.all_eq_true, -Y3, -Y4, and_assoc, Y5, Try.f9, l10OpenC, pickC, l8DeepC, l7SureC, l7SpoilC, l7InstC, hlt, j5, j4, j3, hi, Con.gen]
      intro cx6 lit hle6 hl6
      rw [RdO.sl (size := 3) (rows := [[.int .i64 ic, .int .i64 iop, .slice io ixs.length icap]]) ((hl6.mono ((sub_new cx6).trans (sub_now _ _))).rows (by decide) (by simp) (by simp)) (by decide) (by simp)]
      unfold GrowV
      have hml : ys.length + 1 ≤ maxLen := by unfold maxLen; omega
      simp (maxSteps := 4000000) -dsimp [-Y1, -Array.all_eq_true, -Y3, -Y4, and_assoc, Y5, Try.f9, l10OpenC, pickC, l8DeepC, l7SureC, l7SpoilC, l7InstC, Con.gen, hlt, j5, j4, j3, hi, hrt, hpl, hyc, hcm, hml, hw]
      refine ⟨by omega, fun b8 cap8 pad8 d1 d2 d3 => ?_⟩
      have hp := (ho4.mono (l5.trans hle6).fact).push (RdR.mk (i := ⟨ic, iop, ixs⟩) ⟨io, icap, rfl, ihd.mono hle6.fact, ihc1, ihc2⟩) (by simp only at ihl ⊢; omega) d1 d2 d3
      exact ⟨mem0.length + 1, (i - 1).toNat, by omega, hle5.trans hle6, i - 1, by omega, by omega, rfl, b8, cap8, rs ++ [_], ys ++ [_], by simp; omega, pad8, hp, p5, by rw [List.take_of_length_le (by simp)]; simp [rowsC], by omega, by omega, rfl, rfl, by simp, rfl⟩
    · simp (maxSteps := 4000000) -dsimp [-Y1, -Array.all_eq_true, -Y3, -Y4, and_assoc, Y5, Try.f9, l10OpenC, pickC, l8DeepC, l7SureC, l7SpoilC, l7InstC, hlt, j5, j4, j3, hi, Con.gen]
      rw [open_eq h1 h2 h3, List.append_assoc]
      exact EndK.facts fun cxz hlz hfz => ⟨hle1.trans (hle4.trans hlz), rfl, _, ys, rfl, list_end (hfz _ (List.mem_cons_of_mem _ List.mem_cons_self)) (ho4.rf.mono hlz.fact) ho4.rl rfl hyc hcm, by omega, ho4.ar⟩
  · have n1 : ¬ y = 1 ∧ ¬ y = 2 ∧ ¬ y = 3 := by omega
    simp (maxSteps := 4000000) -dsimp [-Y1, -Array.all_eq_true, -Y3, -Y4, and_assoc, Y5, Try.f9, l10OpenC, pickC, l8DeepC, l7SureC, l7SpoilC, l7InstC, hlt, e0, n1, e4]
    refine l7SureC_at0 hR hty hle2 ⟨by omega, by omega⟩ trivial ?_
    rintro cx3 v p3 hle3 l3 c3 c4 ⟨xs, hx, hxl, hxa⟩
    simp (maxSteps := 4000000) -dsimp [-Y1, -Array.all_eq_true, -Y3, -Y4, and_assoc, Y5, Try.f9, l10OpenC, pickC, l8DeepC, l7SureC, l7SpoilC, l7InstC, hlt]
    exact fin0 hle3 hx (by omega) (fun x hx => by have := hxa x hx; omega)
def l8HalfC_S : Gens Try.prog 9 where
  ι := ((Option Addr) × (Nat) × (List Int))
  A := fun (i : ((Option Addr) × (Nat) × (List Int))) => match i with | (o, cap, bs) => [.v (.slice o bs.length cap)]
  pre := fun (i : ((Option Addr) × (Nat) × (List Int))) (cx : Cx) (mem : List Blk) => match i with | (o, cap, bs) => RdB (factF cx) o bs ∧ (∀ b ∈ bs, 0 ≤ b ∧ b < 256) ∧ bs.length ≤ cap ∧ cap ≤ maxLen
  post := fun (i : ((Option Addr) × (Nat) × (List Int))) (cx : Cx) (mem : List Blk) (cx' : Cx) (c : C) (mem' : List Blk) => match i with | (o, cap, bs) => Le cx cx' ∧ mem' = mem ∧ ∃ v xs, c = .v v ∧ IsList (factF cx') v xs ∧ List.length xs ≤ 7000 ∧ (∀ x ∈ xs, x.args.length ≤ 4)
  enter := Try.call9
  h := fun i cx mem w hp hm => l8HalfC_c i.1 i.2.1 i.2.2 cx mem w hp hm
def l8HalfC : Con Try.prog := Con.gen l8HalfC_S
theorem l8HalfC_at {o : Option Addr} {cap : Nat} {bs : List Int} {d : Nat} {cx : Cx} {mem : List Blk} {K : Cx → C → List Blk → Prop} (hpre : RdB (factF cx) o bs ∧ (∀ b ∈ bs, 0 ≤ b ∧ b < 256) ∧ bs.length ≤ cap ∧ cap ≤ maxLen) (h : ∀ cx' c mem', (Le cx cx' ∧ mem' = mem ∧ ∃ v xs, c = .v v ∧ IsList (factF cx') v xs ∧ List.length xs ≤ 7000 ∧ (∀ x ∈ xs, x.args.length ≤ 4)) → K cx' c mem') : GenV d l8HalfC_S cx [.v (.slice o bs.length cap)] mem K := ⟨(o, cap, bs), rfl, hpre, h⟩
end Go.Proofs.Ytogbbbgmhobfiaa
