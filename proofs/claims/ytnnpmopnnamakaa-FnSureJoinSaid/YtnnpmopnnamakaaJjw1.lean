/-
  Contract: the law of joined lists, walked: verified lists one behind the other, and cut at their rungs.
-/
import Derived.Test.YtnnpmopnnamakaaJgw1
import Derived.Test.YtnnpmopnnamakaaGsw1
set_option linter.unusedVariables false
set_option linter.unusedSimpArgs false
set_option maxRecDepth 100000
set_option maxHeartbeats 4000000
namespace Go.Sx
open Go
def FlatTo (rs : List (List Ins)) (i : Nat) (zs : List Ins) : Prop := zs = (rs.take i).flatten
theorem FlatTo.zero (rs : List (List Ins)) : FlatTo rs 0 [] := rfl
theorem FlatTo.step {rs : List (List Ins)} {i : Nat} {zs r : List Ins} (h : FlatTo rs i zs) (hr : rs[i]? = some r) : FlatTo rs (i + 1) (zs ++ r) := by
  unfold FlatTo at h ⊢
  rw [List.take_add_one, hr, List.flatten_append, ← h]
  simp
theorem FlatTo.fin {rs : List (List Ins)} {zs : List Ins} (h : FlatTo rs rs.length zs) : zs = rs.flatten := by
  unfold FlatTo at h
  rw [h, List.take_length]
theorem FlatTo.le {rs : List (List Ins)} {i : Nat} {zs : List Ins} (h : FlatTo rs i zs) : zs.length ≤ rs.flatten.length := by
  unfold FlatTo at h
  rw [h]; exact flat_take_le rs i
end Go.Sx
namespace Go.Proofs.Ytnnpmopnnamakaa
open Go Go.Sx
open List renaming all_eq_true → Y1, zipIdx → Y5
open Bool renaming exists_bool → Y3, forall_bool → Y4
attribute [local simp] Sx.vcsE1 Sx.vcsE2 Sx.vcsE3 Sx.vcsE4 Sx.vcsE5 Sx.vcsE6 Sx.vcsE7 Sx.vcsE8 Sx.vcsE9 Sx.vcsE10 Sx.vcsE11 Sx.vcsE12 Sx.vcsE13 Sx.vcsE14 Sx.vcsE15 Sx.vcsE16 Sx.vcsE17 Sx.vcsE18 Sx.vcsE19 Sx.get Sx.look Sx.put Sx.pureFn Sx.findOrd Sx.unF Sx.dstOk Sx.isFloatT Sx.endVC Sx.resFn Sx.packC Sx.newFn Sx.storeFn Sx.buildFn Sx.known Sx.aggT Sx.cellsC Sx.findCon Sx.allV Sx.partsV Sx.partsC Sx.fillL Sx.exitTo Sx.fAr Sx.eqFn Sx.eqFieldsFn Sx.eqElemsFn Sx.partFn Sx.sliceFn Sx.boundFn Sx.AppV Sx.CopyV Sx.MakeSliceV Sx.NewsV Sx.GrowV Sx.TextV Sx.bytesL Sx.notInt Sx.typeAt Sx.argAt Sx.den Go.undef Go.Value.cells Go.Value.oneCell' Sx.Con.pure Sx.Con.some Sx.Con.read Sx.Con.make Sx.Con.ext Sx.Con.rel Sx.Con.extS Sx.Con.draw Sx.Con.step Sx.C.one Sx.Draws.steps

structure BkI (F : Facts) (rows : List (List Value)) (zs : List Ins) (pad : List C) (cap : Nat) : Prop where
  rf : RdF F rows zs
  rl : rows.length = zs.length
  yc : zs.length ≤ cap
  cm : cap ≤ maxLen
  pl : pad.length = (cap - zs.length) * 3
theorem BkI.nil (F : Facts) : BkI F [] [] [] 0 := ⟨RdF.nil _ _, rfl, by simp, by decide, rfl⟩
theorem BkI.mono {F G : Facts} {rows : List (List Value)} {zs : List Ins} {pad : List C} {cap : Nat} (h : BkI F rows zs pad cap) (hs : Sub F G) : BkI G rows zs pad cap := ⟨h.rf.mono hs, h.rl, h.yc, h.cm, h.pl⟩
theorem BkI.app {F : Facts} {rows rows2 : List (List Value)} {zs ys : List Ins} {pad pad' : List C} {cap cap' : Nat} (h : BkI F rows zs pad cap) (h2 : RdF F rows2 ys) (hl : rows2.length = ys.length) (h3 : zs.length + ys.length ≤ cap') (h4 : cap' ≤ maxLen) (h5 : pad'.length = (cap' - (zs.length + ys.length)) * 3) : BkI F (rows ++ rows2) (zs ++ ys) pad' cap' :=
  ⟨rdF_app h.rf h.rl h2 hl, by simp [h.rl, hl], by simpa using h3, h4, by simpa using h5⟩
theorem BkI.tk {F : Facts} {rows : List (List Value)} {zs : List Ins} {pad : List C} {cap : Nat} (h : BkI F rows zs pad cap) : List.take (zs.length * 3) (rowsC rows pad) = (List.flatten rows).map C.v := rowsC_take h.rf.len (by rw [h.rl])
theorem BkI.full {F : Facts} {rows : List (List Value)} {zs : List Ins} {pad : List C} {cap : Nat} (h : BkI F rows zs pad cap) : (rowsC rows pad).length = cap * 3 := by
  have := h.pl
  have := h.yc
  rw [rowsC_len h.rf.len, h.rl]; omega
theorem BkI.rd {rows : List (List Value)} {zs : List Ins} {pad : List C} {cap : Nat} {cx : Cx} {mem : List Blk} {w : World} {k b : Nat} {ty : TypeId} (h : BkI (factF cx) rows zs pad cap) (hm : MemRel cx mem w) (hk : mem[k]? = some ⟨b, rowsC rows pad, ty⟩) : RdN w.cell? (some ⟨b, 0, none⟩) zs :=
  ⟨rows, rows_row (pad := pad) h.rf.len (fun off c hc => blk_cell hm hk hc), h.rl, (h.rf.mono (fact_cell hm)).at'⟩
theorem rdn_rows {F : Facts} {o : Option Addr} {xs : List Ins} (h : RdN F o xs) : ∃ rows : List (List Value), RdO F 3 o rows ∧ rows.length = xs.length ∧ RdF F rows xs ∧ rows.flatten.length = xs.length * 3 ∧ (rows.flatten).all (C.one ∘ C.v) = true := by
  obtain ⟨rows, h1, h2, h3⟩ := h.ex
  have hf : RdF F rows xs := ⟨by omega, h3⟩
  exact ⟨rows, h1, h2, hf, by rw [len_flat hf.len, h2], one_rows hf⟩
theorem drawSureRungsD_c (o : Option Addr) (cap : Nat) (bs : List Int) (cx : Cx) (mem : List Blk) (w : World) (hpre : RdB (factF cx) o bs ∧ (∀ b ∈ bs, 0 ≤ b ∧ b < 256) ∧ bs.length ≤ cap ∧ cap ≤ maxLen) (hm : MemRel cx mem w) :
    Calls Try.prog 14 (([.v (.slice o bs.length cap)] : List C).map den).toArray w fun e w' => ∃ cx' c mem', e = .returned (den c) ∧ MemRel cx' mem' w' ∧ Le cx cx' ∧ mem' = mem ∧ ∃ v xs, c = .v v ∧ IsList (factF cx') v xs ∧ List.length xs ≤ 7000 ∧ (∀ x ∈ xs, x.args.length ≤ 4) := by
  refine step_of_vcs ⟨[l8HalfC], []⟩ hmx Try.func14 rfl (by kernel_rfl) (args := [.v (.slice o bs.length cap)]) (by simp [Try.ntmps14]) hm (fun cx' c mem' => Le cx cx' ∧ mem' = mem ∧ ∃ v xs, c = .v v ∧ IsList (factF cx') v xs ∧ List.length xs ≤ 7000 ∧ (∀ x ∈ xs, x.args.length ≤ 4)) 400 ?_
  simp (maxSteps := 4000000) -dsimp [-Y1, -Array.all_eq_true, -Y3, -Y4, and_assoc, Y5, Try.f14, l8HalfC, Con.gen, Con.readW]
  refine l8HalfC_at hpre ?_
  rintro cx1 c mem1 ⟨hle1, rfl, v, xs, rfl, hx, hxl, hxa⟩
  simp (maxSteps := 4000000) -dsimp [-Y1, -Array.all_eq_true, -Y3, -Y4, and_assoc, Y5, Try.f14, l8HalfC]
  exact EndK.all ⟨hle1, rfl, v, xs, rfl, hx, hxl, hxa⟩
def drawSureRungsD_S : Gens Try.prog 14 where
  ι := ((Option Addr) × (Nat) × (List Int))
  A := fun (i : ((Option Addr) × (Nat) × (List Int))) => match i with | (o, cap, bs) => [.v (.slice o bs.length cap)]
  pre := fun (i : ((Option Addr) × (Nat) × (List Int))) (cx : Cx) (mem : List Blk) => match i with | (o, cap, bs) => RdB (factF cx) o bs ∧ (∀ b ∈ bs, 0 ≤ b ∧ b < 256) ∧ bs.length ≤ cap ∧ cap ≤ maxLen
  post := fun (i : ((Option Addr) × (Nat) × (List Int))) (cx : Cx) (mem : List Blk) (cx' : Cx) (c : C) (mem' : List Blk) => match i with | (o, cap, bs) => Le cx cx' ∧ mem' = mem ∧ ∃ v xs, c = .v v ∧ IsList (factF cx') v xs ∧ List.length xs ≤ 7000 ∧ (∀ x ∈ xs, x.args.length ≤ 4)
  enter := Try.call14
  h := fun i cx mem w hp hm => drawSureRungsD_c i.1 i.2.1 i.2.2 cx mem w hp hm
def drawSureRungsD : Con Try.prog := Con.gen drawSureRungsD_S
theorem drawSureRungsD_at {o : Option Addr} {cap : Nat} {bs : List Int} {d : Nat} {cx : Cx} {mem : List Blk} {K : Cx → C → List Blk → Prop} (hpre : RdB (factF cx) o bs ∧ (∀ b ∈ bs, 0 ≤ b ∧ b < 256) ∧ bs.length ≤ cap ∧ cap ≤ maxLen) (h : ∀ cx' c mem', (Le cx cx' ∧ mem' = mem ∧ ∃ v xs, c = .v v ∧ IsList (factF cx') v xs ∧ List.length xs ≤ 7000 ∧ (∀ x ∈ xs, x.args.length ≤ 4)) → K cx' c mem') : GenV d drawSureRungsD_S cx [.v (.slice o bs.length cap)] mem K := ⟨(o, cap, bs), rfl, hpre, h⟩
theorem sureW_at {o : Option Addr} {cap n : Nat} {xs : List Ins} {d : Nat} {cx : Cx} {args : List C} {mem : List Blk} {K : C → Prop} (ha : args.map den = [.slice o n cap]) (hn : n = xs.length)
    (h2 : ∀ w, MemRel cx mem w → RdN w.cell? o xs) (h3 : xs.length ≤ 1048576 ∧ (∀ x ∈ xs, x.args.length ≤ 1048576)) (h : K (.v (.agg #[.int .i64 (sureN xs).1, .int .i64 (sureN xs).2]))) : RdsW d iSureCheckC_S cx args mem K := by
  subst hn
  exact readW_at (S := iSureCheckC_S) (o, cap, xs) ha (fun w hm => ⟨h2 w hm, h3⟩) h
def iSureCheckW : Con Try.prog := Con.readW iSureCheckC_S
def listSameW : Con Try.prog := Con.readW listSameC_S
theorem sameW_at {o o2 : Option Addr} {cap cap2 n n2 : Nat} {xs : List Ins} {d : Nat} {cx : Cx} {args : List C} {mem : List Blk} {K : C → Prop} (ha : args.map den = [.slice o n cap, .slice o2 n2 cap2]) (hn : n = xs.length) (hn2 : n2 = xs.length)
    (h2 : ∀ w, MemRel cx mem w → RdN w.cell? o xs ∧ RdN w.cell? o2 xs) (h3 : xs.length ≤ 1048576 ∧ (∀ x ∈ xs, x.args.length ≤ 1048576)) (h : K (.v (.bool true))) : RdsW d listSameC_S cx args mem K := by
  subst hn hn2
  refine readW_at (S := listSameC_S) (o, cap, xs, o2, cap2, xs) ha (fun w hm => ⟨(h2 w hm).1, (h2 w hm).2, h3.1, h3.1, h3.2, h3.2⟩) ?_
  have e : listSameC_S.res (o, cap, xs, o2, cap2, xs) = .bool true := by
    show Value.bool (decide (xs = xs)) = _
    simp
  rw [e]; exact h
theorem rungsW_at {o : Option Addr} {cap n : Nat} {xs : List Ins} {d : Nat} {cx : Cx} {args : List C} {mem : List Blk} {K : Cx → C → Prop} (ha : args.map den = [.slice o n cap]) (hn : n = xs.length)
    (h2 : ∀ w, MemRel cx mem w → RdN w.cell? o xs) (h3 : xs.length ≤ 1048576 ∧ (∀ x ∈ xs, x.args.length ≤ 1048576) ∧ xs.length ≤ cap ∧ cap ≤ maxLen)
    (h : ∀ cx' ro rcap, Le cx cx' → RgsAt (factF cx') ro (rungsN xs) → K cx' (.v (.slice ro (rungsN xs).length rcap))) : MksW d iSureRungs_S cx args mem K := by
  subst hn
  refine makeW_at (S := iSureRungs_S) (o, cap, xs) ha (fun w hm => ⟨h2 w hm, h3⟩) fun cx' v hle hv => ?_
  obtain ⟨ro, rcap, rfl, h4, _, _⟩ := (show IsRungs _ _ (rungsN xs) from hv).at
  exact h cx' ro rcap hle (h4.mono (sub_new _))
theorem lawSJoinC_c (o : Option Addr) (cap : Nat) (bs : List Int) (o2 : Option Addr) (cap2 : Nat) (cs : List Int) (w : World) (hpre : RdB (factF ⟨w, [], w, []⟩) o bs ∧ RdB (factF ⟨w, [], w, []⟩) o2 cs ∧ ((∀ b ∈ bs, 0 ≤ b ∧ b < 256) ∧ bs.length ≤ cap ∧ cap ≤ maxLen) ∧ ((∀ b ∈ cs, 0 ≤ b ∧ b < 256) ∧ cs.length ≤ cap2 ∧ cap2 ≤ maxLen)) : Calls Try.prog 4 #[.slice o bs.length cap, .slice o2 cs.length cap2] w fun e w' => e = .returned (.bool true) ∧ RowKit.Below w.heap.size w w' := by
  refine (plain_of_vcs ⟨[drawSureRungsD, iSureRungsW, iSureCheckW, sSureCheckC, listSameW], []⟩ hmx Try.func4 rfl (by kernel_rfl) (args := [.slice o bs.length cap, .slice o2 cs.length cap2]) (by simp [Try.ntmps4]) w (· = .bool true) 600 ?_).mono fun e w' ⟨v, h1, h2, h3⟩ => ⟨h2 ▸ h1, h3⟩
  obtain ⟨h, h2, hb, hb2⟩ := hpre
  by_cases hs : bs.length ≤ 1048576 ∧ cs.length ≤ 1048576
  · have hs1 : ¬ (1048576 : Int) < bs.length := by omega
    have hs2 : ¬ (1048576 : Int) < cs.length := by omega
    simp (maxSteps := 4000000) -dsimp [-Y1, -Array.all_eq_true, -Y3, -Y4, and_assoc, Y5, Try.f4, drawSureRungsD, iSureRungsW, iSureCheckW, sSureCheckC, listSameW, hs1, hs2, Con.gen, Con.readW, Con.makeW]
    refine drawSureRungsD_at ⟨h, hb⟩ ?_
    rintro cx1 c mem1 ⟨hle1, rfl, v, xs, rfl, ⟨⟨xo, xcap, rfl, hxd, hxc, hxm⟩⟩, hxl, hxa⟩
    simp (maxSteps := 4000000) -dsimp [-Y1, -Array.all_eq_true, -Y3, -Y4, and_assoc, Y5, Try.f4, drawSureRungsD, iSureRungsW, iSureCheckW, sSureCheckC, listSameW, hs1, hs2, Con.gen, Con.readW, Con.makeW]
    refine drawSureRungsD_at ⟨h2.mono hle1.fact, hb2⟩ ?_
    rintro cx2 c mem2 ⟨hle2, rfl, v, ys, rfl, ⟨⟨yo, ycap, rfl, hyd, hyc, hym⟩⟩, hyl, hya⟩
    have hxa' : ∀ x ∈ xs, x.args.length ≤ 1048576 := fun x hx => by have := hxa x hx; omega
    have hya' : ∀ x ∈ ys, x.args.length ≤ 1048576 := fun x hx => by have := hya x hx; omega
    replace hxd := hxd.mono hle2.fact
    simp (maxSteps := 4000000) -dsimp [-Y1, -Array.all_eq_true, -Y3, -Y4, and_assoc, Y5, Try.f4, drawSureRungsD, iSureRungsW, iSureCheckW, sSureCheckC, listSameW, Con.gen, Con.readW, Con.makeW]
    refine rungsW_at (xs := xs) rfl rfl (fun w hm => hxd.mono (fact_cell hm)) ⟨by omega, hxa', hxc, hxm⟩ ?_
    intro cx3 ro rcap hle3 hR
    replace hxd := hxd.mono hle3.fact
    replace hyd := hyd.mono hle3.fact
    have hrb := rungs_bd xs
    have hrc := rungs_count xs
    have hrs := fun r (hr : r ∈ rungsN xs) => rung_sure hr
    have hra := fun r (hr : r ∈ rungsN xs) => rungs_len hr
    have t2 := fun (d : Nat) (mem : List Blk) (K : C → Prop) => sSureCheckC_rw (d := d) (cx := cx3) (mem := mem) (K := K) (o := xo) (cap := xcap) (xs := xs) ⟨hxd.mono (sub_now _ _), by omega, hxa'⟩
    obtain ⟨ok, hok⟩ : ∃ ok : Bool, ok = ((sureN xs).1 == 0) := ⟨_, rfl⟩
    simp (maxSteps := 4000000) -dsimp [-Y1, -Array.all_eq_true, -Y3, -Y4, and_assoc, Y5, Try.f4, drawSureRungsD, iSureRungsW, iSureCheckW, sSureCheckC, listSameW, Con.gen, Con.readW, Con.makeW, t2]
    intro b0
    rw [← hok]
    refine loop_inv (σ := ⟨[drawSureRungsD, iSureRungsW, iSureCheckW, sSureCheckC, listSameW], []⟩) hmx (by kernel_rfl) (fun m cx' tm mem' => Le cx3 cx' ∧ ∃ (i : Nat) (zs : List Ins), i ≤ (rungsN xs).length ∧ m = (rungsN xs).length - i ∧ FlatTo (rungsN xs) i zs ∧ ∃ (rows : List (List Value)) (pad : List C) (bB cB : Nat), BkI (factF cx') rows zs pad cB ∧ mem' = [⟨bB, rowsC rows pad, 49⟩] ∧
        Sx.look tm 10 = .v (.int .i64 i) ∧ Sx.look tm 9 = .s 0 bB 0 zs.length cB ∧ Sx.look tm 8 = .v (.bool ok) ∧ Sx.look tm 7 = .v (.slice ro (rungsN xs).length rcap) ∧ Sx.look tm 5 = .v (.slice xo xs.length xcap) ∧ Sx.look tm 6 = .v (.slice yo ys.length ycap))
      (rungsN xs).length ⟨Le.refl _, 0, [], by omega, rfl, FlatTo.zero _, [], [], b0, 0, BkI.nil _, rfl, by simp [Sx.look], by simp [Sx.look], by simp [Sx.look], by simp [Sx.look], by simp [Sx.look], by simp [Sx.look]⟩ ?_
    rintro m cx4 tm mem4 ⟨hle4, i, zs, hi, rfl, hF, rows, pad, bB, cB, hB, rfl, j10, j9, j8, j7, j5, j6⟩
    refine ⟨600, ?_⟩
    have hzl := hF.le
    by_cases hlt : i < (rungsN xs).length
    · obtain ⟨r, hr⟩ : ∃ r, (rungsN xs)[i]? = some r := ⟨(rungsN xs)[i], by simp [hlt]⟩
      have hrm := List.mem_of_getElem? hr
      obtain ⟨hsr, hrr⟩ := hrs r hrm
      obtain ⟨hrl, hrx⟩ := hra r hrm
      have hrx' : ∀ x ∈ r, x.args.length ≤ 1048576 := fun x hx => hxa' x (hrx x hx)
      obtain ⟨oa, ca, a1, a2, a3, a4, a5⟩ := (hR.mono hle4.fact).at hr
      have hF' := hF.step hr
      have hzl' := hF'.le
      simp (maxSteps := 4000000) -dsimp [-Y1, -Array.all_eq_true, -Y3, -Y4, and_assoc, Y5, Try.f4, drawSureRungsD, iSureRungsW, iSureCheckW, sSureCheckC, listSameW, Con.gen, Con.readW, Con.makeW, j10, j9, j8, j7, j5, j6, hlt, a4, a5]
      refine sureW_at (xs := r) rfl rfl (fun w hm => a1.mono (fact_cell hm)) ⟨by omega, hrx'⟩ ?_
      rw [hsr]
      simp (maxSteps := 4000000) -dsimp [-Y1, -Array.all_eq_true, -Y3, -Y4, and_assoc, Y5, Try.f4, drawSureRungsD, iSureRungsW, iSureCheckW, sSureCheckC, listSameW, Con.gen, Con.readW, Con.makeW, j10, j9, j8, j7, j5, j6, hlt, a4, a5]
      refine rungsW_at (xs := r) rfl rfl (fun w hm => a1.mono (fact_cell hm)) ⟨by omega, hrx', a2, a3⟩ ?_
      rw [hrr]
      intro cx5 ro5 rcap5 hle5 _
      obtain ⟨ob, cb, c1, c2, c3, c4, c5⟩ := (hR.mono (hle4.trans hle5).fact).at hr
      obtain ⟨rows2, q1, q2, q3, q4, q5⟩ := rdn_rows c1
      simp (maxSteps := 4000000) -dsimp [-Y1, -Array.all_eq_true, -Y3, -Y4, and_assoc, Y5, Try.f4, drawSureRungsD, iSureRungsW, iSureCheckW, sSureCheckC, listSameW, Con.gen, Con.readW, Con.makeW, j10, j9, j8, j7, j5, j6, hlt, c4, c5]
      rw [RdO.sl (size := 3) (rows := rows2) (q1.mono (sub_now _ _)) (by decide) (by omega)]
      obtain ⟨us, hus⟩ : ∃ us, us = rows2.flatten := ⟨_, rfl⟩
      rw [← hus] at q4 q5 ⊢
      unfold GrowV
      have htk := hB.tk
      have hfu := hB.full
      have hyc := hB.yc
      have hcm := hB.cm
      have hwi := i_succ (i := i) (by omega)
      simp (maxSteps := 4000000) -dsimp [-Y1, -Array.all_eq_true, -Y3, -Y4, and_assoc, Y5, Try.f4, drawSureRungsD, iSureRungsW, iSureCheckW, sSureCheckC, listSameW, Con.gen, Con.readW, Con.makeW, j10, j9, j8, j7, j5, j6, q4, q5, htk, hfu, hyc, hcm, hwi]
      refine ⟨by unfold maxLen; omega, by omega, fun b8 cap8 pad8 d1 d2 d3 => ?_⟩
      have hB' := (hB.mono hle5.fact).app q3 q2 d1 d2 d3
      exact ⟨1, (rungsN xs).length - (i + 1), by omega, hle4.trans hle5, i + 1, by omega, rfl, zs ++ r, hF', rows ++ rows2, pad8, b8, cap8, hB', by rw [hus]; simp [rowsC], by omega, rfl, by simp, rfl⟩
    · have hil : i = (rungsN xs).length := by omega
      subst hil
      have hzs := hF.fin
      simp (maxSteps := 4000000) -dsimp [-Y1, -Array.all_eq_true, -Y3, -Y4, and_assoc, Y5, Try.f4, drawSureRungsD, iSureRungsW, iSureCheckW, sSureCheckC, listSameW, Con.gen, Con.readW, Con.makeW, j10, j9, j8, j7, j5, j6]
      by_cases hs0 : (sureN xs).1 = 0
      · have hok1 : ok = true := by rw [hok, hs0]; rfl
        have hflat := rungs_flat hs0
        rw [hflat] at hzs
        rw [hzs] at hB j9
        obtain ⟨hxm1, _⟩ := sureN_zero hs0
        replace hxd := hxd.mono hle4.fact
        replace hyd := hyd.mono hle4.fact
        have t3 := fun (d : Nat) (mem : List Blk) (K : C → Prop) => sSureCheckC_rw (d := d) (cx := cx4) (mem := mem) (K := K) (o := yo) (cap := ycap) (xs := ys) ⟨hyd.mono (sub_now _ _), by omega, hya'⟩
        have hw := (((hle1.trans hle2).trans hle3).trans hle4).w0
        have hg := (((hle1.trans hle2).trans hle3).trans hle4).g0
        simp (maxSteps := 4000000) -dsimp [-Y1, -Array.all_eq_true, -Y3, -Y4, and_assoc, Y5, Try.f4, drawSureRungsD, iSureRungsW, iSureCheckW, sSureCheckC, listSameW, Con.gen, Con.readW, Con.makeW, j10, j9, j8, j7, j5, j6, hok1]
        refine sameW_at (xs := xs) rfl (congrArg List.length hzs) rfl (fun w hm => ⟨hB.rd hm (k := 0) rfl, hxd.mono (fact_cell hm)⟩) ⟨by omega, hxa'⟩ ?_
        by_cases hy0 : (sureN ys).1 = 0
        · by_cases hlen : xs.length + ys.length ≤ 1000
          · have hlen' : ¬ (1000 : Int) < (xs.length : Int) + ys.length := by omega
            have hwl : IntKind.i64.wrap ((xs.length : Int) + ys.length) = (xs.length : Int) + ys.length := wrap_i64 (by omega) (by omega)
            obtain ⟨hj1, hj2⟩ := sure_join hs0 hy0 hlen
            simp (maxSteps := 4000000) -dsimp [-Y1, -Array.all_eq_true, -Y3, -Y4, and_assoc, Y5, Try.f4, drawSureRungsD, iSureRungsW, iSureCheckW, sSureCheckC, listSameW, Con.gen, Con.readW, Con.makeW, j10, j9, j8, j7, j5, j6, hok1, t3, hy0, hlen', hwl]
            intro b20
            obtain ⟨rowsX, x1, x2, x3, x4, x5⟩ := rdn_rows hxd
            obtain ⟨rowsY, y1, y2, y3, y4, y5⟩ := rdn_rows hyd
            rw [RdO.sl (size := 3) (rows := rowsX) (x1.mono (sub_now _ _)) (by decide) (by omega)]
            obtain ⟨ux, hux⟩ : ∃ ux, ux = rowsX.flatten := ⟨_, rfl⟩
            rw [← hux] at x4 x5 ⊢
            unfold GrowV
            simp (maxSteps := 4000000) -dsimp [-Y1, -Array.all_eq_true, -Y3, -Y4, and_assoc, Y5, Try.f4, drawSureRungsD, iSureRungsW, iSureCheckW, sSureCheckC, listSameW, Con.gen, Con.readW, Con.makeW, x4, x5, j10, j9, j8, j7, j5, j6]
            refine ⟨by unfold maxLen; omega, by omega, fun b21 cap21 pad21 e1 e2 e3 => ?_⟩
            rw [RdO.sl (size := 3) (rows := rowsY) (y1.mono (sub_now _ _)) (by decide) (by omega)]
            obtain ⟨uy, huy⟩ : ∃ uy, uy = rowsY.flatten := ⟨_, rfl⟩
            rw [← huy] at y4 y5 ⊢
            unfold GrowV
            simp (maxSteps := 4000000) -dsimp [-Y1, -Array.all_eq_true, -Y3, -Y4, and_assoc, Y5, Try.f4, drawSureRungsD, iSureRungsW, iSureCheckW, sSureCheckC, listSameW, Con.gen, Con.readW, Con.makeW, x4, x5, y4, y5, e1, e2, j10, j9, j8, j7, j5, j6]
            refine ⟨by omega, by unfold maxLen; omega, by omega, fun b22 cap22 pad22 f1 f2 f3 => ?_⟩
            have hXY : BkI (factF cx4) (rowsX ++ rowsY) (xs ++ ys) pad22 cap22 := ⟨rdF_app x3 x2 y3 y2, by simp [x2, y2], by simpa using f1, f2, by simpa using f3⟩
            have hcell : List.map C.v ux ++ (List.map C.v uy ++ pad22) = rowsC (rowsX ++ rowsY) pad22 := by rw [hux, huy]; simp [rowsC]
            rw [hcell]
            have hzl2 : xs.length + ys.length = (xs ++ ys).length := by simp
            have hza : ∀ x ∈ xs ++ ys, x.args.length ≤ 1048576 := fun x hx => by
              rcases List.mem_append.1 hx with hx | hx
              · exact hxa' x hx
              · exact hya' x hx
            refine sureW_at (o := some ⟨b22, 0, none⟩) (cap := cap22) (n := xs.length + ys.length) (xs := xs ++ ys) rfl hzl2 (fun w hm => hXY.rd hm (k := 1) rfl) ⟨by omega, hza⟩ ?_
            rw [hj1]
            simp (maxSteps := 4000000) -dsimp [-Y1, -Array.all_eq_true, -Y3, -Y4, and_assoc, Y5, Try.f4, drawSureRungsD, iSureRungsW, iSureCheckW, sSureCheckC, listSameW, Con.gen, Con.readW, Con.makeW]
            refine rungsW_at (o := some ⟨b22, 0, none⟩) (cap := cap22) (n := xs.length + ys.length) (xs := xs ++ ys) rfl hzl2 (fun w hm => hXY.rd hm (k := 1) rfl) ⟨by omega, hza, by omega, f2⟩ ?_
            rw [hj2]
            intro cx5 ro5 rcap5 hle5 _
            have hc1 := rungs_count xs
            have hc2 := rungs_count ys
            simp (maxSteps := 4000000) -dsimp [-Y1, -Array.all_eq_true, -Y3, -Y4, and_assoc, Y5, Try.f4, drawSureRungsD, iSureRungsW, iSureCheckW, sSureCheckC, listSameW, Con.gen, Con.readW, Con.makeW, j10, j9, j8, j7, j5, j6]
            refine rungsW_at (xs := ys) rfl rfl (fun w hm => (hyd.mono hle5.fact).mono (fact_cell hm)) ⟨by omega, hya', hyc, hym⟩ ?_
            intro cx6 ro6 rcap6 hle6 _
            have hw6 := ((((hle1.trans hle2).trans hle3).trans hle4).trans (hle5.trans hle6)).w0
            have hg6 := ((((hle1.trans hle2).trans hle3).trans hle4).trans (hle5.trans hle6)).g0
            have hwr : IntKind.i64.wrap (((rungsN xs).length : Int) + (rungsN ys).length) = ((rungsN xs).length : Int) + (rungsN ys).length := wrap_i64 (by omega) (by omega)
            simp (maxSteps := 4000000) -dsimp [-Y1, -Array.all_eq_true, -Y3, -Y4, and_assoc, Y5, Try.f4, drawSureRungsD, iSureRungsW, iSureCheckW, sSureCheckC, listSameW, Con.gen, Con.readW, Con.makeW, j10, j9, j8, j7, j5, j6, hwr, hw6, hg6]
          · have hlen' : (1000 : Int) < (xs.length : Int) + ys.length := by omega
            have hwl : IntKind.i64.wrap ((xs.length : Int) + ys.length) = (xs.length : Int) + ys.length := wrap_i64 (by omega) (by omega)
            simp (maxSteps := 4000000) -dsimp [-Y1, -Array.all_eq_true, -Y3, -Y4, and_assoc, Y5, Try.f4, drawSureRungsD, iSureRungsW, iSureCheckW, sSureCheckC, listSameW, Con.gen, Con.readW, Con.makeW, j10, j9, j8, j7, j5, j6, hok1, t3, hy0, hlen', hwl, hw, hg]
        · have hy1 : 0 < (sureN ys).1 := by have := sureN_bd ys; omega
          simp (maxSteps := 4000000) -dsimp [-Y1, -Array.all_eq_true, -Y3, -Y4, and_assoc, Y5, Try.f4, drawSureRungsD, iSureRungsW, iSureCheckW, sSureCheckC, listSameW, Con.gen, Con.readW, Con.makeW, j10, j9, j8, j7, j5, j6, hok1, t3, hy1, hw, hg]
      · have hok1 : ok = false := by rw [hok]; simpa using hs0
        have hr0 := rungs_none hs0
        have hs1 : 0 < (sureN xs).1 := by have := sureN_bd xs; omega
        have hw := (((hle1.trans hle2).trans hle3).trans hle4).w0
        have hg := (((hle1.trans hle2).trans hle3).trans hle4).g0
        replace hxd := hxd.mono hle4.fact
        simp (maxSteps := 4000000) -dsimp [-Y1, -Array.all_eq_true, -Y3, -Y4, and_assoc, Y5, Try.f4, drawSureRungsD, iSureRungsW, iSureCheckW, sSureCheckC, listSameW, Con.gen, Con.readW, Con.makeW, j10, j9, j8, j7, j5, j6, hok1, hr0]
        refine sureW_at (xs := xs) rfl rfl (fun w hm => hxd.mono (fact_cell hm)) ⟨by omega, hxa'⟩ ?_
        simp (maxSteps := 4000000) -dsimp [-Y1, -Array.all_eq_true, -Y3, -Y4, and_assoc, Y5, Try.f4, drawSureRungsD, iSureRungsW, iSureCheckW, sSureCheckC, listSameW, Con.gen, Con.readW, Con.makeW, j10, j9, j8, j7, j5, j6, hok1, hr0, hs1, hw, hg]
  · by_cases hs1 : (1048576 : Int) < bs.length
    · simp (maxSteps := 4000000) -dsimp [-Y1, -Array.all_eq_true, -Y3, -Y4, and_assoc, Y5, Try.f4, drawSureRungsD, iSureRungsW, iSureCheckW, sSureCheckC, listSameW, hs1]
    · have hs2 : (1048576 : Int) < cs.length := by omega
      simp (maxSteps := 4000000) -dsimp [-Y1, -Array.all_eq_true, -Y3, -Y4, and_assoc, Y5, Try.f4, drawSureRungsD, iSureRungsW, iSureCheckW, sSureCheckC, listSameW, hs1, hs2]
end Go.Proofs.Ytnnpmopnnamakaa
