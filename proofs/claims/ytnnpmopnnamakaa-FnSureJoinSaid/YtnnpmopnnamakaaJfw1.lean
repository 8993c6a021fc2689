/-
  Contract: a list copied by the reference, into known blocks.
-/
import Derived.Test.YtnnpmopnnamakaaJcw1
import Derived.Test.YtnnpmopnnamakaaIw1
set_option linter.unusedVariables false
set_option linter.unusedSimpArgs false
set_option maxRecDepth 100000
set_option maxHeartbeats 4000000
namespace Go.Proofs.Ytnnpmopnnamakaa
open Go Go.Sx
attribute [local simp] Sx.vcsE1 Sx.vcsE2 Sx.vcsE3 Sx.vcsE4 Sx.vcsE5 Sx.vcsE6 Sx.vcsE7 Sx.vcsE8 Sx.vcsE9 Sx.vcsE10 Sx.vcsE11 Sx.vcsE12 Sx.vcsE13 Sx.vcsE14 Sx.vcsE15 Sx.vcsE16 Sx.vcsE17 Sx.vcsE18 Sx.vcsE19 Sx.get Sx.look Sx.put Sx.pureFn Sx.findOrd Sx.unF Sx.dstOk Sx.isFloatT Sx.endVC Sx.resFn Sx.packC Sx.newFn Sx.storeFn Sx.buildFn Sx.known Sx.aggT Sx.cellsC Sx.findCon Sx.allV Sx.partsV Sx.partsC Sx.fillL Sx.exitTo Sx.fAr Sx.eqFn Sx.eqFieldsFn Sx.eqElemsFn Sx.partFn Sx.sliceFn Sx.boundFn Sx.AppV Sx.CopyV Sx.MakeSliceV Sx.NewsV Sx.GrowV Sx.TextV Sx.bytesL Sx.notInt Sx.typeAt Sx.argAt Sx.den Go.undef Go.Value.cells Go.Value.oneCell' Sx.Con.pure Sx.Con.some Sx.Con.read Sx.Con.make Sx.Con.ext Sx.Con.rel Sx.Con.extS Sx.Con.draw Sx.Con.step Sx.C.one Sx.Draws.steps

theorem l8CopyK_c (o : Option Addr) (cap : Nat) (xs : List Ins) (cx : Cx) (mem : List Blk) (w : World) (hpre : mem = [] ∧ RdN (factF cx) o xs ∧ List.length xs ≤ 1048576 ∧ (∀ x ∈ xs, x.args.length ≤ 1048576)) (hm : MemRel cx mem w) :
    Calls Try.prog 19 (([.v (.slice o (List.length xs) cap)] : List C).map den).toArray w fun e w' => ∃ cx' c mem', e = .returned (den c) ∧ MemRel cx' mem' w' ∧ Le cx cx' ∧ ∃ (b cp : Nat) (pad : List C) (rs : List (List Value)) (As : List Blk), c = .v (.slice (some ⟨b, 0, none⟩) (List.length xs) cp) ∧ mem' = ⟨b, LB rs ++ pad, 49⟩ :: As ∧ LR 54 xs rs As ∧ List.length xs ≤ cp ∧ cp ≤ maxLen ∧ List.length pad = (cp - List.length xs) * 3 := by
  refine step_of_vcs ⟨[], [(5, [(0, false), (1, false), (2, false), (3, false), (4, false), (5, false), (6, false), (7, false), (8, false), (9, false), (10, false), (11, false), (13, false), (14, false), (15, false), (16, false), (17, false), (18, false), (12, false), (5, true), (11, true), (18, true), (19, false), (5, true), (11, true), (20, false), (21, false), (22, false), (23, false), (24, false)])]⟩ hmx Try.func19 rfl (by kernel_rfl) (args := [.v (.slice o (List.length xs) cap)]) (by simp [Try.ntmps19]) hm (fun cx' c mem' => Le cx cx' ∧ ∃ (b cp : Nat) (pad : List C) (rs : List (List Value)) (As : List Blk), c = .v (.slice (some ⟨b, 0, none⟩) (List.length xs) cp) ∧ mem' = ⟨b, LB rs ++ pad, 49⟩ :: As ∧ LR 54 xs rs As ∧ List.length xs ≤ cp ∧ cp ≤ maxLen ∧ List.length pad = (cp - List.length xs) * 3) 600 ?_
  obtain ⟨rfl, h, hl, hxa⟩ := hpre
  simp (maxSteps := 4000000) -dsimp [-List.all_eq_true, -Array.all_eq_true, -Bool.exists_bool, -Bool.forall_bool, and_assoc, List.zipIdx, Try.f19, Con.gen]
  intro b0
  refine loop_inv (σ := ⟨[], [(5, [(0, false), (1, false), (2, false), (3, false), (4, false), (5, false), (6, false), (7, false), (8, false), (9, false), (10, false), (11, false), (13, false), (14, false), (15, false), (16, false), (17, false), (18, false), (12, false), (5, true), (11, true), (18, true), (19, false), (5, true), (11, true), (20, false), (21, false), (22, false), (23, false), (24, false)])]⟩) hmx (by kernel_rfl) (fun m cx' tm mem => Le cx cx' ∧ ∃ i : Nat, i ≤ xs.length ∧ m = xs.length - i ∧ ∃ (rs : List (List Value)) (As Gs : List Blk), LR 54 (xs.take i) rs As ∧ As.Sublist Gs ∧ ∃ b cp : Nat, i ≤ cp ∧ cp ≤ maxLen ∧ ∃ pad : List C, pad.length = (cp - i) * 3 ∧
      mem = ⟨b, LB rs ++ pad, 49⟩ :: Gs ∧ Sx.look tm 4 = .v (.int .i64 i) ∧ Sx.look tm 3 = .s 0 b 0 i cp ∧ Sx.look tm 0 = .v (.slice o xs.length cap))
    xs.length ⟨Le.refl _, 0, by omega, rfl, [], [], [], LR.nil, List.Sublist.refl _, b0, 0, by decide, by decide, [], rfl, by simp [LB], by simp [Sx.look], by simp [Sx.look], by simp [Sx.look]⟩ ?_
  rintro m cx2 tm mem ⟨hle, i, hi, rfl, rs, As, Gs, hR, hS, b, cp, g1, g2, pad, g3, rfl, j4, j3, j0⟩
  refine ⟨600, ?_⟩
  have hRl := hR.len
  have htl : (xs.take i).length = i := by rw [List.length_take]; omega
  have hrl : rs.length = i := by rw [hRl.1, htl]
  have e0 := LB_take hRl.2 pad hrl
  have e1 := LB_full hRl.2 hrl g3 g1
  have h2 := h.mono hle.fact
  by_cases hlt : i < xs.length
  · have hlt' : (i : Int) < xs.length := by omega
    obtain ⟨x, hx⟩ : ∃ x, xs[i]? = some x := ⟨xs[i], by simp [hlt]⟩
    have hax := hxa x (List.mem_of_getElem? hx)
    have hax5 : x.args.length ≤ maxLen := by unfold maxLen; omega
    obtain ⟨o', cap', hat⟩ := h2.at hx
    have w1 := i_succ (i := i) (by omega)
    simp (maxSteps := 4000000) -dsimp [-List.all_eq_true, -Array.all_eq_true, -Bool.exists_bool, -Bool.forall_bool, and_assoc, List.zipIdx, Try.f19, j4, j3, j0, hlt, hlt', h2.there hlt, hat.code, hat.op, hat.sl, w1, Con.gen, List.getElem?_append, List.set_append]
    intro b1
    rw [RdO.sl (hat.args.mono (sub_now _ _)) (by decide) (by rw [List.length_map])]
    unfold GrowV
    simp (maxSteps := 4000000) -dsimp [-List.all_eq_true, -Array.all_eq_true, -Bool.exists_bool, -Bool.forall_bool, and_assoc, List.zipIdx, Try.f19, j4, j3, j0, hlt, hlt', h2.there hlt, hat.code, hat.op, hat.sl, w1, hax5, Con.gen, List.getElem?_append, List.set_append]
    have ed : (List.map (List.map C.v ∘ encD) x.args).flatten = DB x.args := by simp [DB, encDs, List.map_flatten]
    rw [ed]
    refine ⟨by rw [List.all_eq_true]; exact fun x _ => rfl, by omega, fun bo co po q1 q2 q3 cx3 p3 hle3 hlit => ?_⟩
    rw [RdL.sl (hlit.mono ((sub_new cx3).trans (sub_now _ _))) (by rfl)]
    unfold GrowV
    have ht1 : xs.take (i + 1) = xs.take i ++ [x] := by rw [List.take_add_one, hx]; rfl
    have hR' := hR.full (x := x) (b := bo) (cp := co) (pad := po) ⟨q1, q2, q3⟩
    rw [← ht1] at hR'
    simp (maxSteps := 4000000) -dsimp [-List.all_eq_true, -Array.all_eq_true, -Bool.exists_bool, -Bool.forall_bool, and_assoc, List.zipIdx, Try.f19, j4, j3, j0, e0, e1, -List.length_append, w1, Con.gen, List.getElem?_append, List.set_append]
    exact ⟨g1, g2, by unfold maxLen; omega, by omega, fun b' cap8 pad' r1 r2 r3 => ⟨Gs.length + 3, xs.length - (i + 1), by omega, hle.trans hle3, i + 1, by omega, rfl, _, _, hR', Gs ++ [_], hS.append (List.Sublist.refl _), b', cap8, r1, r2, pad', r3, by rw [List.take_of_length_le (by simp), LB_push], by omega, rfl, rfl, rfl⟩⟩
  · obtain rfl : i = xs.length := by omega
    have hlt' : ¬ (xs.length : Int) < xs.length := by omega
    rw [List.take_length] at hR
    simp (maxSteps := 4000000) -dsimp [-List.all_eq_true, -Array.all_eq_true, -Bool.exists_bool, -Bool.forall_bool, and_assoc, List.zipIdx, Try.f19, j4, j3, j0, hlt', Con.gen]
    exact endK_sub (List.Sublist.cons_cons _ hS) ⟨hle, b, cp, pad, rs, As, rfl, rfl, hR, g1, g2, g3⟩
def l8CopyK_S : Gens Try.prog 19 where
  ι := ((Option Addr) × (Nat) × (List Ins))
  A := fun (i : ((Option Addr) × (Nat) × (List Ins))) => match i with | (o, cap, xs) => [.v (.slice o (List.length xs) cap)]
  pre := fun (i : ((Option Addr) × (Nat) × (List Ins))) (cx : Cx) (mem : List Blk) => match i with | (o, cap, xs) => mem = [] ∧ RdN (factF cx) o xs ∧ List.length xs ≤ 1048576 ∧ (∀ x ∈ xs, x.args.length ≤ 1048576)
  post := fun (i : ((Option Addr) × (Nat) × (List Ins))) (cx : Cx) (mem : List Blk) (cx' : Cx) (c : C) (mem' : List Blk) => match i with | (o, cap, xs) => Le cx cx' ∧ ∃ (b cp : Nat) (pad : List C) (rs : List (List Value)) (As : List Blk), c = .v (.slice (some ⟨b, 0, none⟩) (List.length xs) cp) ∧ mem' = ⟨b, LB rs ++ pad, 49⟩ :: As ∧ LR 54 xs rs As ∧ List.length xs ≤ cp ∧ cp ≤ maxLen ∧ List.length pad = (cp - List.length xs) * 3
  enter := Try.call19
  h := fun i cx mem w hp hm => l8CopyK_c i.1 i.2.1 i.2.2 cx mem w hp hm
end Go.Proofs.Ytnnpmopnnamakaa
