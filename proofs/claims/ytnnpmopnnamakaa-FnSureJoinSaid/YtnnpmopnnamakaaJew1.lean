/-
  Contract: the rungs of a verified list, by the program, in known blocks and as facts.
-/
import Derived.Test.YtnnpmopnnamakaaJcw1
import Derived.Test.YtnnpmopnnamakaaJdw1
import Derived.Test.YtnnpmopnnamakaaStw1
set_option linter.unusedVariables false
set_option linter.unusedSimpArgs false
set_option maxRecDepth 100000
set_option maxHeartbeats 4000000
namespace Go.Proofs.Ytnnpmopnnamakaa
open Go Go.Sx
attribute [local simp] Sx.vcsE1 Sx.vcsE2 Sx.vcsE3 Sx.vcsE4 Sx.vcsE5 Sx.vcsE6 Sx.vcsE7 Sx.vcsE8 Sx.vcsE9 Sx.vcsE10 Sx.vcsE11 Sx.vcsE12 Sx.vcsE13 Sx.vcsE14 Sx.vcsE15 Sx.vcsE16 Sx.vcsE17 Sx.vcsE18 Sx.vcsE19 Sx.get Sx.look Sx.put Sx.pureFn Sx.findOrd Sx.unF Sx.dstOk Sx.isFloatT Sx.endVC Sx.resFn Sx.packC Sx.newFn Sx.storeFn Sx.buildFn Sx.known Sx.aggT Sx.cellsC Sx.findCon Sx.allV Sx.partsV Sx.partsC Sx.fillL Sx.exitTo Sx.fAr Sx.eqFn Sx.eqFieldsFn Sx.eqElemsFn Sx.partFn Sx.sliceFn Sx.boundFn Sx.AppV Sx.CopyV Sx.MakeSliceV Sx.NewsV Sx.GrowV Sx.TextV Sx.bytesL Sx.notInt Sx.typeAt Sx.argAt Sx.den Go.undef Go.Value.cells Go.Value.oneCell' Sx.Con.pure Sx.Con.some Sx.Con.read Sx.Con.make Sx.Con.ext Sx.Con.rel Sx.Con.extS Sx.Con.draw Sx.Con.step Sx.C.one Sx.Draws.steps

theorem iSureRungsK_c (o : Option Addr) (cap : Nat) (xs : List Ins) (cx : Cx) (mem : List Blk) (w : World) (hpre : mem = [] ∧ RdN (factF cx) o xs ∧ List.length xs ≤ 1048576 ∧ (∀ x ∈ xs, x.args.length ≤ 1048576) ∧ List.length xs ≤ cap ∧ cap ≤ maxLen) (hm : MemRel cx mem w) :
    Calls Try.prog 8 (([.v (.slice o (List.length xs) cap)] : List C).map den).toArray w fun e w' => ∃ cx' c mem', e = .returned (den c) ∧ MemRel cx' mem' w' ∧ Le cx cx' ∧ RGK 26 49 54 (rungsN xs) c mem' := by
  refine step_of_vcs ⟨[iSureCheckC, cloneG], []⟩ hmx Try.func8 rfl (by kernel_rfl) (args := [.v (.slice o (List.length xs) cap)]) (by simp [Try.ntmps8]) hm (fun cx' c mem' => Le cx cx' ∧ RGK 26 49 54 (rungsN xs) c mem') 600 ?_
  obtain ⟨rfl, h, hl, hxa, hlc, hcm⟩ := hpre
  have y := fun (d : Nat) (mem : List Blk) (K : C → Prop) => iSureCheckC_rw (cap := cap) (d := d) (cx := cx) (mem := mem) (K := K) ⟨h.mono (sub_now _ _), hl, hxa⟩
  by_cases hs : (sureN xs).1 = 0
  · obtain ⟨hx1, _, _, _, hs0⟩ := sureN_zero hs
    have hrg : rungsN xs = cutG xs [] := by unfold rungsN; rw [if_pos hs]
    rw [hrg]
    have hs2 : (sureN xs).2 = 0 := by rw [hs0]
    simp (maxSteps := 4000000) -dsimp [-List.all_eq_true, -Array.all_eq_true, -Bool.exists_bool, -Bool.forall_bool, and_assoc, List.zipIdx, Try.f8, iSureCheckC, cloneG, y, hs, hs2, Con.gen]
    intro b0
    refine loop_inv (σ := ⟨[iSureCheckC, cloneG], []⟩) hmx (by kernel_rfl) (fun m cx' tm mem => Le cx cx' ∧ ∃ i from' : Nat, i ≤ xs.length ∧ from' ≤ i ∧ m = xs.length - i ∧ ∃ gs : List Grp, cutG xs [] = gs.map Grp.r ++ cutG (xs.drop i) ((xs.take i).drop from') ∧ (∀ g ∈ gs, g.Ok 54) ∧ gs.length ≤ i ∧ ∃ Gs : List Blk, (allB 49 gs).Sublist Gs ∧ ∃ b cp : Nat, gs.length ≤ cp ∧ cp ≤ maxLen ∧ ∃ pad : List C, pad.length = cp - gs.length ∧
        mem = ⟨b, HB gs ++ pad, 26⟩ :: Gs ∧ Sx.look tm 18 = .v (.int .i64 i) ∧ Sx.look tm 17 = .v (.int .i64 xs.length) ∧ Sx.look tm 16 = .v (.slice o xs.length cap) ∧ Sx.look tm 4 = .v (.int .i64 from') ∧ Sx.look tm 3 = .s 0 b 0 gs.length cp ∧ Sx.look tm 0 = .v (.slice o xs.length cap))
      xs.length ⟨Le.refl _, 0, 0, by omega, by omega, rfl, [], rfl, by simp, by simp, [], List.Sublist.refl _, b0, 0, by decide, by decide, [], rfl, by simp [HB], by simp [Sx.look], by simp [Sx.look], by simp [Sx.look], by simp [Sx.look], by simp [Sx.look], by simp [Sx.look]⟩ ?_
    rintro m cx2 tm mem ⟨hle, i, from', hi, hfi, rfl, gs, hG, hok, hgl, Gs, hS, b, cp, g1, g2, pad, g3, rfl, j18, j17, j16, j4, j3, j0⟩
    refine ⟨600, ?_⟩
    have h2 := h.mono hle.fact
    by_cases hlt : i < xs.length
    · have hlt' : (i : Int) < xs.length := by omega
      obtain ⟨x, hx⟩ : ∃ x, xs[i]? = some x := ⟨xs[i], by simp [hlt]⟩
      obtain ⟨o', cap', hat⟩ := h2.at hx
      have w1 := i_succ (i := i) (by omega)
      have hcf : ¬ (cap : Int) = from' := by omega
      by_cases hc : x.code = 11
      · simp (maxSteps := 4000000) -dsimp [-List.all_eq_true, -Array.all_eq_true, -Bool.exists_bool, -Bool.forall_bool, and_assoc, List.zipIdx, Try.f8, iSureCheckC, cloneG, j18, j17, j16, j4, j3, j0, hlt, hlt', h2.there hlt, hat.all, hc, w1, hcf, Con.gen, List.getElem?_append, List.set_append]
        intro b1 b2
        refine ⟨by omega, by omega, ?_⟩
        have hyl : ((xs.take (i + 1)).drop from').length = i + 1 - from' := by rw [List.length_drop, List.length_take]; omega
        have hya : ∀ y ∈ (xs.take (i + 1)).drop from', y.args.length ≤ 1048576 := fun y hy => hxa y (List.mem_of_mem_take (List.mem_of_mem_drop hy))
        rw [cutG_end hx hfi hc] at hG
        have hY := h2.cut (i + 1) from'
        rw [← hyl]
        generalize (xs.take (i + 1)).drop from' = ys at *
        generalize padd o (from' * 3) = p at *
        generalize cap - from' = capY at *
        refine loop_inv (σ := ⟨[iSureCheckC, cloneG], []⟩) hmx (by kernel_rfl) (fun m cx' tm mem => Le cx2 cx' ∧ ∃ j : Nat, j ≤ ys.length ∧ m = ys.length - j ∧ ∃ (rs : List (List Value)) (As Gs2 : List Blk), LR 54 (ys.take j) rs As ∧ As.Sublist Gs2 ∧ ∃ bR cR : Nat, j ≤ cR ∧ cR ≤ maxLen ∧ ∃ padR : List C, padR.length = (cR - j) * 3 ∧
            mem = ⟨b, HB gs ++ pad, 26⟩ :: (Gs ++ (⟨b1, [.v (.int .i64 11), .v (.int .i64 x.op), .v (.slice o' x.args.length cap')], 49⟩ :: ⟨bR, LB rs ++ padR, 49⟩ :: Gs2)) ∧
            Sx.look tm 33 = .v (.int .i64 j) ∧ Sx.look tm 32 = .v (.int .i64 ys.length) ∧ Sx.look tm 31 = .v (.slice p ys.length capY) ∧ Sx.look tm 7 = .s (Gs.length + 1 + 1) bR 0 j cR ∧ Sx.look tm 5 = .v (.int .i64 i) ∧ Sx.look tm 18 = .v (.int .i64 i) ∧ Sx.look tm 17 = .v (.int .i64 xs.length) ∧ Sx.look tm 16 = .v (.slice o xs.length cap) ∧ Sx.look tm 3 = .s 0 b 0 gs.length cp ∧ Sx.look tm 0 = .v (.slice o xs.length cap))
          ys.length ⟨Le.refl _, 0, by omega, rfl, [], [], [], LR.nil, List.Sublist.refl _, b2, 0, by decide, by decide, [], rfl, by simp [LB], by simp [Sx.look], by simp [Sx.look], by simp [Sx.look], by simp [Sx.look], by simp [Sx.look], by simp [Sx.look, j18], by simp [Sx.look, j17], by simp [Sx.look, j16], by simp [Sx.look, j3], by simp [Sx.look, j0]⟩ ?_
        rintro m cx3 tm3 mem3 ⟨hle3, j, hj, rfl, rs, As, Gs2, hR, hS2, bR, cR, k1, k2, padR, k3, rfl, i33, i32, i31, i7, i5, i18, i17, i16, i3, i0⟩
        refine ⟨600, ?_⟩
        have hRl := hR.len
        have htl : (ys.take j).length = j := by rw [List.length_take]; omega
        have hrl : rs.length = j := by rw [hRl.1, htl]
        have e0 := LB_take hRl.2 padR hrl
        have e1 := LB_full hRl.2 hrl k3 k1
        have hY3 := hY.mono hle3.fact
        by_cases hjt : j < ys.length
        · have hjt' : (j : Int) < ys.length := by omega
          obtain ⟨y1, hy1⟩ : ∃ y1, ys[j]? = some y1 := ⟨ys[j], by simp [hjt]⟩
          have hay := hya y1 (List.mem_of_getElem? hy1)
          obtain ⟨o2, cap2, hat2⟩ := hY3.at hy1
          have w2 := i_succ (i := j) (by omega)
          simp (maxSteps := 4000000) -dsimp [-List.all_eq_true, -Array.all_eq_true, -Bool.exists_bool, -Bool.forall_bool, and_assoc, List.zipIdx, Try.f8, iSureCheckC, cloneG, i33, i32, i31, i7, i5, i18, i17, i16, i3, i0, hjt, hjt', hY3.there hjt, hat2.all, w2, Con.gen, List.getElem?_append, List.set_append]
          have hng : ∀ n : Nat, (n + 1 < n) = False := fun n => by simp
          have ht1 : ys.take (j + 1) = ys.take j ++ [y1] := by rw [List.take_add_one, hy1]; rfl
          intro b3
          refine cloneG_at ⟨hat2.args, hay⟩ ?_
          rintro cx4 _ _ ⟨rfl, ⟨ha0, rfl, rfl⟩ | ⟨bo, co, po, rfl, rfl, q1, q2, q3⟩⟩
          · have hR' := hR.bare (x := y1) ha0
            rw [← ht1] at hR'
            simp (maxSteps := 4000000) -dsimp [-List.all_eq_true, -Array.all_eq_true, -Bool.exists_bool, -Bool.forall_bool, and_assoc, List.zipIdx, Try.f8, iSureCheckC, cloneG, i33, i32, i31, i7, i5, i18, i17, i16, i3, i0, w2, Con.gen, List.getElem?_append, List.set_append]
            intro cx5 p5 hle5 hlit
            rw [RdL.sl (hlit.mono ((sub_new cx5).trans (sub_now _ _))) (by rfl)]
            unfold GrowV
            simp (maxSteps := 4000000) -dsimp [-List.all_eq_true, -Array.all_eq_true, -Bool.exists_bool, -Bool.forall_bool, and_assoc, List.zipIdx, Try.f8, iSureCheckC, cloneG, i33, i32, i31, i7, i5, i18, i17, i16, i3, i0, e0, e1, hng, -List.length_append, w2, Con.gen, List.getElem?_append, List.set_append]
            exact ⟨k1, k2, by unfold maxLen; omega, by omega, fun b' cap8 pad' r1 r2 r3 => ⟨Gs.length + Gs2.length + 4, ys.length - (j + 1), by omega, hle3.trans hle5, j + 1, by omega, rfl, _, As, hR', Gs2 ++ [_], hS2.trans (List.sublist_append_left _ _), b', cap8, r1, r2, pad', r3, by rw [List.take_of_length_le (by simp; omega), LB_push], by omega, rfl, rfl, rfl⟩⟩
          · have hR' := hR.full (x := y1) (b := bo) (cp := co) (pad := po) ⟨q1, q2, q3⟩
            rw [← ht1] at hR'
            simp (maxSteps := 4000000) -dsimp [-List.all_eq_true, -Array.all_eq_true, -Bool.exists_bool, -Bool.forall_bool, and_assoc, List.zipIdx, Try.f8, iSureCheckC, cloneG, i33, i32, i31, i7, i5, i18, i17, i16, i3, i0, w2, Con.gen, List.getElem?_append, List.set_append]
            intro cx5 p5 hle5 hlit
            rw [RdL.sl (hlit.mono ((sub_new cx5).trans (sub_now _ _))) (by rfl)]
            unfold GrowV
            simp (maxSteps := 4000000) -dsimp [-List.all_eq_true, -Array.all_eq_true, -Bool.exists_bool, -Bool.forall_bool, and_assoc, List.zipIdx, Try.f8, iSureCheckC, cloneG, i33, i32, i31, i7, i5, i18, i17, i16, i3, i0, e0, e1, hng, -List.length_append, w2, Con.gen, List.getElem?_append, List.set_append]
            exact ⟨k1, k2, by unfold maxLen; omega, by omega, fun b' cap8 pad' r1 r2 r3 => ⟨Gs.length + Gs2.length + 5, ys.length - (j + 1), by omega, hle3.trans hle5, j + 1, by omega, rfl, _, _, hR', Gs2 ++ [_, _], hS2.append (List.Sublist.cons _ (List.Sublist.refl _)), b', cap8, r1, r2, pad', r3, by rw [List.take_of_length_le (by simp; omega), LB_push], by omega, rfl, rfl, rfl⟩⟩
        · obtain rfl : j = ys.length := by omega
          have hjt' : ¬ (ys.length : Int) < ys.length := by omega
          rw [List.take_length] at hR
          simp (maxSteps := 4000000) -dsimp [-List.all_eq_true, -Array.all_eq_true, -Bool.exists_bool, -Bool.forall_bool, and_assoc, List.zipIdx, Try.f8, iSureCheckC, cloneG, i33, i32, i31, i7, i5, i18, i17, i16, i3, i0, hjt', w1, Con.gen, List.getElem?_append, List.set_append]
          intro cx4 p4 hle4 hlit
          rw [RdL.sl (hlit.mono ((sub_new cx4).trans (sub_now _ _))) (by rfl)]
          unfold GrowV
          have d0 := HB_take gs pad
          have d1 : (HB gs ++ pad).length = cp := by rw [List.length_append, HB_len]; omega
          simp (maxSteps := 4000000) -dsimp [-List.all_eq_true, -Array.all_eq_true, -Bool.exists_bool, -Bool.forall_bool, and_assoc, List.zipIdx, Try.f8, iSureCheckC, cloneG, i33, i32, i31, i7, i5, i18, i17, i16, i3, i0, hjt', d0, d1, -List.length_append, w1, Con.gen, List.getElem?_append, List.set_append]
          obtain ⟨J, hKJ, _⟩ := hR.kx
          have hK := hKJ padR
          obtain ⟨g, hg⟩ : ∃ g : Grp, g = ⟨ys, bR, cR, LB rs ++ padR, As, J⟩ := ⟨_, rfl⟩
          have hgo : g.Ok 54 := by rw [hg]; exact ⟨hK, e1, k1, k2⟩
          have hgh : (C.v (Value.slice (some ⟨bR, 0, none⟩) ys.length cR)) = C.v g.hd := by rw [hg]; rfl
          have hgb : allB 49 (gs ++ [g]) = allB 49 gs ++ (⟨bR, LB rs ++ padR, 49⟩ :: As) := by rw [allB_snoc, hg]
          have hgr : cutG xs [] = (gs ++ [g]).map Grp.r ++ cutG (xs.drop (i + 1)) ((xs.take (i + 1)).drop (i + 1)) := by rw [hG, hg]; simp
          rw [hgh]
          exact ⟨g1, g2, by unfold maxLen; omega, by omega, fun b' cap8 pad' r1 r2 r3 => ⟨Gs.length + Gs2.length + 3, xs.length - (i + 1), by omega, hle.trans (hle3.trans hle4), i + 1, by omega, i + 1, by omega, rfl, gs ++ [g], hgr, fun z hz => by
            rcases List.mem_append.1 hz with hz | hz
            · exact hok z hz
            · rw [List.mem_singleton] at hz; rw [hz]; exact hgo, by simp; omega, Gs ++ (_ :: _ :: Gs2), by rw [hgb]; exact hS.append (List.Sublist.cons _ (List.Sublist.cons_cons _ hS2)), b', cap8, by simpa using r1, r2, pad', by simpa using r3, by rw [List.take_of_length_le (by simp; omega), HB_push], by omega, by omega, rfl, by simp, rfl⟩⟩
      · rw [cutG_step hx hfi hc] at hG
        simp (maxSteps := 4000000) -dsimp [-List.all_eq_true, -Array.all_eq_true, -Bool.exists_bool, -Bool.forall_bool, and_assoc, List.zipIdx, Try.f8, iSureCheckC, cloneG, j18, j17, j16, j4, j3, j0, hlt, hlt', h2.there hlt, hat.all, hc, w1, hcf, Con.gen, List.getElem?_append, List.set_append]
        intro b1
        exact ⟨Gs.length + 2, xs.length - (i + 1), by omega, hle, i + 1, by omega, from', by omega, rfl, gs, hG, hok, by omega, Gs ++ [_], hS.trans (List.sublist_append_left _ _), b, cp, g1, g2, pad, g3, List.take_of_length_le (by simp), by omega, rfl, rfl, rfl, rfl⟩
    · obtain rfl : i = xs.length := by omega
      have hlt' : ¬ (xs.length : Int) < xs.length := by omega
      rw [List.drop_of_length_le (Nat.le_refl _)] at hG
      simp (maxSteps := 4000000) -dsimp [-List.all_eq_true, -Array.all_eq_true, -Bool.exists_bool, -Bool.forall_bool, and_assoc, List.zipIdx, Try.f8, iSureCheckC, cloneG, j18, j17, j16, j4, j3, j0, hlt', Con.gen]
      rw [hG]
      exact endK_sub (List.Sublist.cons_cons _ hS) ⟨hle, gs, b, cp, pad, by simp [cutG], hok, rfl, rfl, g1, g2⟩
  · rw [rungs_none hs]
    simp (maxSteps := 4000000) -dsimp [-List.all_eq_true, -Array.all_eq_true, -Bool.exists_bool, -Bool.forall_bool, and_assoc, List.zipIdx, Try.f8, iSureCheckC, cloneG, y, hs, Con.gen]
    intro b0
    exact endK_val ⟨Le.refl _, [], b0, 0, [], rfl, by simp, rfl, by simp [HB, allB], by decide, by decide⟩
def iSureRungsK_S : Gens Try.prog 8 where
  ι := ((Option Addr) × (Nat) × (List Ins))
  A := fun (i : ((Option Addr) × (Nat) × (List Ins))) => match i with | (o, cap, xs) => [.v (.slice o (List.length xs) cap)]
  pre := fun (i : ((Option Addr) × (Nat) × (List Ins))) (cx : Cx) (mem : List Blk) => match i with | (o, cap, xs) => mem = [] ∧ RdN (factF cx) o xs ∧ List.length xs ≤ 1048576 ∧ (∀ x ∈ xs, x.args.length ≤ 1048576) ∧ List.length xs ≤ cap ∧ cap ≤ maxLen
  post := fun (i : ((Option Addr) × (Nat) × (List Ins))) (cx : Cx) (mem : List Blk) (cx' : Cx) (c : C) (mem' : List Blk) => match i with | (o, cap, xs) => Le cx cx' ∧ RGK 26 49 54 (rungsN xs) c mem'
  enter := Try.call8
  h := fun i cx mem w hp hm => iSureRungsK_c i.1 i.2.1 i.2.2 cx mem w hp hm
end Go.Proofs.Ytnnpmopnnamakaa
