/-
  The law of the first wrong instruction, walked.
-/
import Derived.Test.YtogbbbgmhobfiaaGsw2
import Derived.Test.YtogbbbgmhobfiaaSsw2
import Derived.Test.YtogbbbgmhobfiaaStw2
import Derived.Test.YtogbbbgmhobfiaaSvw2
import Derived.Test.YtogbbbgmhobfiaaSww2
set_option linter.unusedVariables false
set_option linter.unusedSimpArgs false
set_option maxRecDepth 100000
set_option maxHeartbeats 4000000
namespace Go.Sx
open Go
theorem RdO.take {F : Facts} {size : Nat} {o : Option Addr} {rows : List (List Value)} (h : RdO F size o rows) (n : Nat) : RdO F size o (rows.take n) := fun i r hr => by
  rw [List.getElem?_take] at hr
  split at hr
  · exact h i r hr
  · simp at hr
theorem RdN.take {F : Facts} {o : Option Addr} {xs : List Ins} (h : RdN F o xs) (n : Nat) : RdN F o (xs.take n) := by
  obtain ⟨rows, h1, h2, h3⟩ := h.ex
  refine ⟨rows.take n, RdO.take h1 n, by simp [h2], fun i r x hr hx => ?_⟩
  rw [List.getElem?_take] at hr hx
  split at hr
  · rename_i hi
    rw [if_pos hi] at hx
    exact h3 i r x hr hx
  · simp at hr
end Go.Sx
namespace Go.Proofs.Ytogbbbgmhobfiaa
open Go Go.Sx
open List renaming all_eq_true → Y1, zipIdx → Y5
open Bool renaming exists_bool → Y3, forall_bool → Y4
attribute [local simp] Sx.vcsE1 Sx.vcsE2 Sx.vcsE3 Sx.vcsE4 Sx.vcsE5 Sx.vcsE6 Sx.vcsE7 Sx.vcsE8 Sx.vcsE9 Sx.vcsE10 Sx.vcsE11 Sx.vcsE12 Sx.vcsE13 Sx.vcsE14 Sx.vcsE15 Sx.vcsE16 Sx.vcsE17 Sx.vcsE18 Sx.vcsE19 Sx.get Sx.look Sx.put Sx.pureFn Sx.findOrd Sx.unF Sx.dstOk Sx.isFloatT Sx.endVC Sx.resFn Sx.packC Sx.newFn Sx.storeFn Sx.buildFn Sx.known Sx.aggT Sx.cellsC Sx.findCon Sx.allV Sx.partsV Sx.partsC Sx.fillL Sx.exitTo Sx.fAr Sx.eqFn Sx.eqFieldsFn Sx.eqElemsFn Sx.partFn Sx.sliceFn Sx.boundFn Sx.AppV Sx.CopyV Sx.MakeSliceV Sx.NewsV Sx.GrowV Sx.TextV Sx.bytesL Sx.notInt Sx.typeAt Sx.argAt Sx.den Go.undef Go.Value.cells Go.Value.oneCell' Sx.Con.pure Sx.Con.some Sx.Con.read Sx.Con.make Sx.Con.ext Sx.Con.rel Sx.Con.extS Sx.Con.draw Sx.Con.step Sx.C.one Sx.Draws.steps

theorem drawSureCheckD_c (o : Option Addr) (cap : Nat) (bs : List Int) (cx : Cx) (mem : List Blk) (w : World) (hpre : RdB (factF cx) o bs ∧ (∀ b ∈ bs, 0 ≤ b ∧ b < 256) ∧ bs.length ≤ cap ∧ cap ≤ maxLen) (hm : MemRel cx mem w) :
    Calls Try.prog 5 (([.v (.slice o bs.length cap)] : List C).map den).toArray w fun e w' => ∃ cx' c mem', e = .returned (den c) ∧ MemRel cx' mem' w' ∧ Le cx cx' ∧ mem' = mem ∧ ∃ v xs, c = .v v ∧ IsList (factF cx') v xs ∧ List.length xs ≤ 7000 ∧ (∀ x ∈ xs, x.args.length ≤ 4) := by
  refine step_of_vcs ⟨[l8HalfC], []⟩ hmx Try.func5 rfl (by kernel_rfl) (args := [.v (.slice o bs.length cap)]) (by simp [Try.ntmps5]) hm (fun cx' c mem' => Le cx cx' ∧ mem' = mem ∧ ∃ v xs, c = .v v ∧ IsList (factF cx') v xs ∧ List.length xs ≤ 7000 ∧ (∀ x ∈ xs, x.args.length ≤ 4)) 400 ?_
  simp (maxSteps := 4000000) -dsimp [-Y1, -Array.all_eq_true, -Y3, -Y4, and_assoc, Y5, Try.f5, l8HalfC, Con.gen, Con.readW]
  refine l8HalfC_at hpre ?_
  rintro cx1 c mem1 ⟨hle1, rfl, v, xs, rfl, hx, hxl, hxa⟩
  simp (maxSteps := 4000000) -dsimp [-Y1, -Array.all_eq_true, -Y3, -Y4, and_assoc, Y5, Try.f5, l8HalfC]
  exact EndK.all ⟨hle1, rfl, v, xs, rfl, hx, hxl, hxa⟩
def drawSureCheckD_S : Gens Try.prog 5 where
  ι := ((Option Addr) × (Nat) × (List Int))
  A := fun (i : ((Option Addr) × (Nat) × (List Int))) => match i with | (o, cap, bs) => [.v (.slice o bs.length cap)]
  pre := fun (i : ((Option Addr) × (Nat) × (List Int))) (cx : Cx) (mem : List Blk) => match i with | (o, cap, bs) => RdB (factF cx) o bs ∧ (∀ b ∈ bs, 0 ≤ b ∧ b < 256) ∧ bs.length ≤ cap ∧ cap ≤ maxLen
  post := fun (i : ((Option Addr) × (Nat) × (List Int))) (cx : Cx) (mem : List Blk) (cx' : Cx) (c : C) (mem' : List Blk) => match i with | (o, cap, bs) => Le cx cx' ∧ mem' = mem ∧ ∃ v xs, c = .v v ∧ IsList (factF cx') v xs ∧ List.length xs ≤ 7000 ∧ (∀ x ∈ xs, x.args.length ≤ 4)
  enter := Try.call5
  h := fun i cx mem w hp hm => drawSureCheckD_c i.1 i.2.1 i.2.2 cx mem w hp hm
def drawSureCheckD : Con Try.prog := Con.gen drawSureCheckD_S
theorem drawSureCheckD_at {o : Option Addr} {cap : Nat} {bs : List Int} {d : Nat} {cx : Cx} {mem : List Blk} {K : Cx → C → List Blk → Prop} (hpre : RdB (factF cx) o bs ∧ (∀ b ∈ bs, 0 ≤ b ∧ b < 256) ∧ bs.length ≤ cap ∧ cap ≤ maxLen) (h : ∀ cx' c mem', (Le cx cx' ∧ mem' = mem ∧ ∃ v xs, c = .v v ∧ IsList (factF cx') v xs ∧ List.length xs ≤ 7000 ∧ (∀ x ∈ xs, x.args.length ≤ 4)) → K cx' c mem') : GenV d drawSureCheckD_S cx [.v (.slice o bs.length cap)] mem K := ⟨(o, cap, bs), rfl, hpre, h⟩
theorem sureW_at {o : Option Addr} {cap : Nat} {xs : List Ins} {d : Nat} {cx : Cx} {args : List C} {mem : List Blk} {K : C → Prop} (ha : args.map den = [.slice o xs.length cap])
    (h2 : ∀ w, MemRel cx mem w → RdN w.cell? o xs ∧ xs.length ≤ 1048576 ∧ (∀ x ∈ xs, x.args.length ≤ 1048576)) (h : K (.v (.agg #[.int .i64 (sureN xs).1, .int .i64 (sureN xs).2]))) : RdsW d iSureCheckC_S cx args mem K :=
  readW_at (S := iSureCheckC_S) (o, cap, xs) ha h2 h
def iSureCheckW : Con Try.prog := Con.readW iSureCheckC_S
theorem lawSFirstC_c (o : Option Addr) (cap : Nat) (bs : List Int) (o2 : Option Addr) (cap2 : Nat) (cs : List Int) (w : World) (hpre : RdB (factF ⟨w, [], w, []⟩) o bs ∧ RdB (factF ⟨w, [], w, []⟩) o2 cs ∧ ((∀ b ∈ bs, 0 ≤ b ∧ b < 256) ∧ bs.length ≤ cap ∧ cap ≤ maxLen) ∧ ((∀ b ∈ cs, 0 ≤ b ∧ b < 256) ∧ cs.length ≤ cap2 ∧ cap2 ≤ maxLen)) : Calls Try.prog 4 #[.slice o bs.length cap, .slice o2 cs.length cap2] w fun e w' => e = .returned (.bool true) ∧ RowKit.Below w.heap.size w w' := by
  refine (plain_of_vcs ⟨[drawSureCheckD, iSureCheckW, sSureCheckC], []⟩ hmx Try.func4 rfl (by kernel_rfl) (args := [.slice o bs.length cap, .slice o2 cs.length cap2]) (by simp [Try.ntmps4]) w (· = .bool true) 400 ?_).mono fun e w' ⟨v, h1, h2, h3⟩ => ⟨h2 ▸ h1, h3⟩
  obtain ⟨h, h2, hb, hb2⟩ := hpre
  by_cases hs : bs.length ≤ 1048576 ∧ cs.length ≤ 1048576
  · have hs1 : ¬ (1048576 : Int) < bs.length := by omega
    have hs2 : ¬ (1048576 : Int) < cs.length := by omega
    simp (maxSteps := 4000000) -dsimp [-Y1, -Array.all_eq_true, -Y3, -Y4, and_assoc, Y5, Try.f4, drawSureCheckD, iSureCheckW, sSureCheckC, hs1, hs2, Con.gen, Con.readW]
    refine drawSureCheckD_at ⟨h, hb⟩ ?_
    rintro cx1 c mem1 ⟨hle1, rfl, v, xs, rfl, ⟨⟨xo, xcap, rfl, hxd, hxc, hxm⟩⟩, hxl, hxa⟩
    have hxa' : ∀ x ∈ xs, x.args.length ≤ 1048576 := fun x hx => by have := hxa x hx; omega
    have hw := hle1.w0
    have hg := hle1.g0
    have t2 := fun (d : Nat) (mem : List Blk) (K : C → Prop) => sSureCheckC_rw (d := d) (cx := cx1) (mem := mem) (K := K) (o := xo) (cap := xcap) (xs := xs) ⟨hxd.mono (sub_now _ _), by omega, hxa'⟩
    have hbd := sureN_bd xs
    simp (maxSteps := 4000000) -dsimp [-Y1, -Array.all_eq_true, -Y3, -Y4, and_assoc, Y5, Try.f4, drawSureCheckD, iSureCheckW, sSureCheckC, Con.gen, Con.readW]
    refine sureW_at (o := xo) (cap := xcap) (xs := xs) rfl (fun w hm => ⟨hxd.mono (fact_cell hm), by omega, hxa'⟩) ?_
    obtain ⟨code, at', hsn⟩ : ∃ code at', sureN xs = (code, at') := ⟨_, _, rfl⟩
    rw [hsn] at t2 hbd
    by_cases h0 : code = 0
    · simp (maxSteps := 4000000) -dsimp [-Y1, -Array.all_eq_true, -Y3, -Y4, and_assoc, Y5, Try.f4, drawSureCheckD, iSureCheckW, sSureCheckC, Con.gen, Con.readW, hsn, t2, h0, hw, hg]
    by_cases h1 : code = 1
    · simp (maxSteps := 4000000) -dsimp [-Y1, -Array.all_eq_true, -Y3, -Y4, and_assoc, Y5, Try.f4, drawSureCheckD, iSureCheckW, sSureCheckC, Con.gen, Con.readW, hsn, t2, h1, hw, hg]
    by_cases h9 : code = 9
    · simp (maxSteps := 4000000) -dsimp [-Y1, -Array.all_eq_true, -Y3, -Y4, and_assoc, Y5, Try.f4, drawSureCheckD, iSureCheckW, sSureCheckC, Con.gen, Con.readW, hsn, t2, h9, hw, hg]
    have hlaw := fun c => sure_first (a := xs) (c := c) hsn h0 h1 h9
    obtain ⟨j, rfl, hj, hj2, hcut, -⟩ := hlaw []
    have hlaw2 : ∀ c, 1000 < (xs.take (j + 1) ++ c).length ∨ sureN (xs.take (j + 1) ++ c) = (code, (j : Int)) := fun c => by
      obtain ⟨j', e, -, -, -, k⟩ := hlaw c
      have : j' = j := by omega
      subst this; exact k
    have hjc : (j : Int) ≤ xcap := by omega
    have htk : RdN (factF cx1) xo (xs.take j) := hxd.take j
    simp (maxSteps := 4000000) -dsimp [-Y1, -Array.all_eq_true, -Y3, -Y4, and_assoc, Y5, Try.f4, drawSureCheckD, iSureCheckW, sSureCheckC, Con.gen, Con.readW, hsn, t2, h0, h1, h9, hjc]
    intro b4
    have hjl : (xs.take j).length = j := by simp; omega
    refine sureW_at (o := xo) (cap := xcap) (xs := xs.take j) (by rw [hjl]; rfl) (fun w hm => ⟨htk.mono (fact_cell hm), by omega, fun x hx => hxa' x (List.mem_of_mem_take hx)⟩) ?_
    obtain ⟨rows, r1, r2, r3⟩ := hxd.ex
    have hwj : IntKind.i64.wrap ((j : Int) + 1) = ((j + 1 : Nat) : Int) := i_succ (by omega)
    have hj1c : ((j + 1 : Nat) : Int) ≤ xcap := by omega
    have hfl : (rows.take (j + 1)).flatten.length = (j + 1) * 3 := by
      have : ∀ r ∈ rows.take (j + 1), r.length = 3 := fun r hr => by
        obtain ⟨q, hq⟩ := List.getElem?_of_mem (List.mem_of_mem_take hr)
        exact (r1 q r hq).1
      rw [len_flat this]
      simp
      omega
    have hrf : RdF (factF cx1) (rows.take (j + 1)) (xs.take (j + 1)) := rdF_take ⟨by omega, r3⟩ (j + 1) r2
    rcases hcut with ⟨c1, c2⟩ | c1
    rotate_left
    · simp (maxSteps := 4000000) -dsimp [-Y1, -Array.all_eq_true, -Y3, -Y4, and_assoc, Y5, Try.f4, drawSureCheckD, iSureCheckW, sSureCheckC, Con.gen, Con.readW, c1, h0, h1, h9, hwj, hj1c]
      intro b5 b6
      refine ⟨by omega, by omega, ?_⟩
      rw [RdO.sl (size := 3) (rows := rows.take (j + 1)) ((RdO.take r1 (j + 1)).mono (sub_now _ _)) (by decide) (by simp; omega)]
      obtain ⟨vs, hvs⟩ : ∃ vs, vs = (rows.take (j + 1)).flatten := ⟨_, rfl⟩
      rw [← hvs] at hfl ⊢
      unfold GrowV
      have hone : vs.all (C.one ∘ C.v) = true := by rw [hvs]; exact one_rows hrf
      simp (maxSteps := 4000000) -dsimp [-Y1, -Array.all_eq_true, -Y3, -Y4, and_assoc, Y5, Try.f4, drawSureCheckD, iSureCheckW, sSureCheckC, Con.gen, Con.readW, hfl, hone]
      refine ⟨by unfold maxLen; omega, by omega, fun b7 cap7 pad7 d1 d2 d3 => ?_⟩
      refine drawSureCheckD_at ⟨h2.mono hle1.fact, hb2⟩ ?_
      rintro cx2 c mem2 ⟨hle2, rfl, v, ys, rfl, ⟨⟨yo, ycap, rfl, hyd, hyc, hym⟩⟩, hyl, hya⟩
      obtain ⟨rows2, q1, q2, q3⟩ := hyd.ex
      have hfl2 : rows2.flatten.length = ys.length * 3 := by
        have : ∀ r ∈ rows2, r.length = 3 := fun r hr => by
          obtain ⟨q, hq⟩ := List.getElem?_of_mem hr
          exact (q1 q r hq).1
        rw [len_flat this, q2]
      have hrf2 : RdF (factF cx2) rows2 ys := ⟨by omega, q3⟩
      have hone2 := one_rows hrf2
      simp (maxSteps := 4000000) -dsimp [-Y1, -Array.all_eq_true, -Y3, -Y4, and_assoc, Y5, Try.f4, drawSureCheckD, iSureCheckW, sSureCheckC, Con.gen, Con.readW, hfl, hone]
      rw [RdO.sl (size := 3) (rows := rows2) (q1.mono (sub_now _ _)) (by decide) (by omega)]
      obtain ⟨us, hus⟩ : ∃ us, us = rows2.flatten := ⟨_, rfl⟩
      rw [← hus] at hfl2 hone2 ⊢
      unfold GrowV
      by_cases hbig : (j : Int) + 1 + ys.length ≤ 1000
      · have hbig' : ¬ (1000 : Int) < (j : Int) + 1 + ys.length := by omega
        simp (maxSteps := 4000000) -dsimp [-Y1, -Array.all_eq_true, -Y3, -Y4, and_assoc, Y5, Try.f4, drawSureCheckD, iSureCheckW, sSureCheckC, Con.gen, Con.readW, hfl, hone, hfl2, hone2, hbig, hbig']
        refine ⟨by omega, d1, d2, by unfold maxLen; omega, by omega, fun b9 cap9 pad9 e1 e2 e3 => ?_⟩
        have hr3 := rdF_app (hrf.mono hle2.fact) (by simp [r2]) hrf2 q2
        have hzl : (xs.take (j + 1) ++ ys).length = j + 1 + ys.length := by simp; omega
        refine sureW_at (o := some ⟨b9, 0, none⟩) (cap := cap9) (xs := xs.take (j + 1) ++ ys) (by rw [hzl]; rfl) (fun w hm => ⟨⟨_, rows_row (rows := rows.take (j + 1) ++ rows2) (pad := pad9) hr3.len (fun off c hc => blk_cell hm (k := 2) rfl (by rw [hvs, hus]; simpa [rowsC] using hc)), by simp [r2, q2], (hr3.mono (fact_cell hm)).at'⟩, by omega, fun x hx => ?_⟩) ?_
        · rcases List.mem_append.1 hx with hx | hx
          · exact hxa' x (List.mem_of_mem_take hx)
          · have := hya x hx; omega
        · have hk := (hlaw2 ys).resolve_left (by omega)
          have hw2 := (hle1.trans hle2).w0
          have hg2 := (hle1.trans hle2).g0
          simp (maxSteps := 4000000) -dsimp [-Y1, -Array.all_eq_true, -Y3, -Y4, and_assoc, Y5, Try.f4, drawSureCheckD, iSureCheckW, sSureCheckC, Con.gen, Con.readW, hk, hw2, hg2]
      · have hbig' : (1000 : Int) < (j : Int) + 1 + ys.length := by omega
        have hw2 := (hle1.trans hle2).w0
        have hg2 := (hle1.trans hle2).g0
        simp (maxSteps := 4000000) -dsimp [-Y1, -Array.all_eq_true, -Y3, -Y4, and_assoc, Y5, Try.f4, drawSureCheckD, iSureCheckW, sSureCheckC, Con.gen, Con.readW, hfl, hone, hfl2, hone2, hbig, hbig', hw2, hg2]
        refine ⟨by omega, d1, d2, by unfold maxLen; omega, by omega⟩
    · simp (maxSteps := 4000000) -dsimp [-Y1, -Array.all_eq_true, -Y3, -Y4, and_assoc, Y5, Try.f4, drawSureCheckD, iSureCheckW, sSureCheckC, Con.gen, Con.readW, c1, c2, h0, h1, h9, hwj, hj1c]
      intro b5 b6
      refine ⟨by omega, by omega, ?_⟩
      rw [RdO.sl (size := 3) (rows := rows.take (j + 1)) ((RdO.take r1 (j + 1)).mono (sub_now _ _)) (by decide) (by simp; omega)]
      obtain ⟨vs, hvs⟩ : ∃ vs, vs = (rows.take (j + 1)).flatten := ⟨_, rfl⟩
      rw [← hvs] at hfl ⊢
      unfold GrowV
      have hone : vs.all (C.one ∘ C.v) = true := by rw [hvs]; exact one_rows hrf
      simp (maxSteps := 4000000) -dsimp [-Y1, -Array.all_eq_true, -Y3, -Y4, and_assoc, Y5, Try.f4, drawSureCheckD, iSureCheckW, sSureCheckC, Con.gen, Con.readW, hfl, hone]
      refine ⟨by unfold maxLen; omega, by omega, fun b7 cap7 pad7 d1 d2 d3 => ?_⟩
      refine drawSureCheckD_at ⟨h2.mono hle1.fact, hb2⟩ ?_
      rintro cx2 c mem2 ⟨hle2, rfl, v, ys, rfl, ⟨⟨yo, ycap, rfl, hyd, hyc, hym⟩⟩, hyl, hya⟩
      obtain ⟨rows2, q1, q2, q3⟩ := hyd.ex
      have hfl2 : rows2.flatten.length = ys.length * 3 := by
        have : ∀ r ∈ rows2, r.length = 3 := fun r hr => by
          obtain ⟨q, hq⟩ := List.getElem?_of_mem hr
          exact (q1 q r hq).1
        rw [len_flat this, q2]
      have hrf2 : RdF (factF cx2) rows2 ys := ⟨by omega, q3⟩
      have hone2 := one_rows hrf2
      simp (maxSteps := 4000000) -dsimp [-Y1, -Array.all_eq_true, -Y3, -Y4, and_assoc, Y5, Try.f4, drawSureCheckD, iSureCheckW, sSureCheckC, Con.gen, Con.readW, hfl, hone]
      rw [RdO.sl (size := 3) (rows := rows2) (q1.mono (sub_now _ _)) (by decide) (by omega)]
      obtain ⟨us, hus⟩ : ∃ us, us = rows2.flatten := ⟨_, rfl⟩
      rw [← hus] at hfl2 hone2 ⊢
      unfold GrowV
      by_cases hbig : (j : Int) + 1 + ys.length ≤ 1000
      · have hbig' : ¬ (1000 : Int) < (j : Int) + 1 + ys.length := by omega
        simp (maxSteps := 4000000) -dsimp [-Y1, -Array.all_eq_true, -Y3, -Y4, and_assoc, Y5, Try.f4, drawSureCheckD, iSureCheckW, sSureCheckC, Con.gen, Con.readW, hfl, hone, hfl2, hone2, hbig, hbig']
        refine ⟨by omega, d1, d2, by unfold maxLen; omega, by omega, fun b9 cap9 pad9 e1 e2 e3 => ?_⟩
        have hr3 := rdF_app (hrf.mono hle2.fact) (by simp [r2]) hrf2 q2
        have hzl : (xs.take (j + 1) ++ ys).length = j + 1 + ys.length := by simp; omega
        refine sureW_at (o := some ⟨b9, 0, none⟩) (cap := cap9) (xs := xs.take (j + 1) ++ ys) (by rw [hzl]; rfl) (fun w hm => ⟨⟨_, rows_row (rows := rows.take (j + 1) ++ rows2) (pad := pad9) hr3.len (fun off c hc => blk_cell hm (k := 2) rfl (by rw [hvs, hus]; simpa [rowsC] using hc)), by simp [r2, q2], (hr3.mono (fact_cell hm)).at'⟩, by omega, fun x hx => ?_⟩) ?_
        · rcases List.mem_append.1 hx with hx | hx
          · exact hxa' x (List.mem_of_mem_take hx)
          · have := hya x hx; omega
        · have hk := (hlaw2 ys).resolve_left (by omega)
          have hw2 := (hle1.trans hle2).w0
          have hg2 := (hle1.trans hle2).g0
          simp (maxSteps := 4000000) -dsimp [-Y1, -Array.all_eq_true, -Y3, -Y4, and_assoc, Y5, Try.f4, drawSureCheckD, iSureCheckW, sSureCheckC, Con.gen, Con.readW, hk, hw2, hg2]
      · have hbig' : (1000 : Int) < (j : Int) + 1 + ys.length := by omega
        have hw2 := (hle1.trans hle2).w0
        have hg2 := (hle1.trans hle2).g0
        simp (maxSteps := 4000000) -dsimp [-Y1, -Array.all_eq_true, -Y3, -Y4, and_assoc, Y5, Try.f4, drawSureCheckD, iSureCheckW, sSureCheckC, Con.gen, Con.readW, hfl, hone, hfl2, hone2, hbig, hbig', hw2, hg2]
        refine ⟨by omega, d1, d2, by unfold maxLen; omega, by omega⟩
  · by_cases hs1 : (1048576 : Int) < bs.length
    · simp (maxSteps := 4000000) -dsimp [-Y1, -Array.all_eq_true, -Y3, -Y4, and_assoc, Y5, Try.f4, drawSureCheckD, iSureCheckW, sSureCheckC, hs1]
    · have hs2 : (1048576 : Int) < cs.length := by omega
      simp (maxSteps := 4000000) -dsimp [-Y1, -Array.all_eq_true, -Y3, -Y4, and_assoc, Y5, Try.f4, drawSureCheckD, iSureCheckW, sSureCheckC, hs1, hs2]
end Go.Proofs.Ytogbbbgmhobfiaa
