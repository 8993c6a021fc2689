/-
  Contracts: a machine's step drawn.
-/
import Derived.Test.YtfhnbdlkiemaeaaGreatGkpk
import Derived.Test.YtfhnbdlkiemaeaaGreatGepk
import Derived.Test.YtfhnbdlkiemaeaaGreatBvpk
import Derived.Test.YtfhnbdlkiemaeaaGreatMspk
set_option linter.unusedVariables false
set_option linter.unusedSimpArgs false
set_option maxRecDepth 100000
set_option maxHeartbeats 4000000
namespace Go.Proofs.YtfhnbdlkiemaeaaGreat
open Go Go.Sx
attribute [local simp] Go.Sx.vcsE1 Go.Sx.vcsE2 Go.Sx.vcsE3 Go.Sx.vcsE4 Go.Sx.vcsE5 Go.Sx.vcsE6 Go.Sx.vcsE7 Go.Sx.vcsE8 Go.Sx.vcsE9 Go.Sx.vcsE10 Go.Sx.vcsE11 Go.Sx.vcsE12 Go.Sx.vcsE13 Go.Sx.vcsE14 Go.Sx.vcsE15 Go.Sx.vcsE16 Go.Sx.vcsE17 Go.Sx.vcsE18 Go.Sx.vcsE19 Go.Sx.get Go.Sx.look Go.Sx.put Go.Sx.pureFn Go.Sx.findOrd Go.Sx.unF Go.Sx.dstOk Go.Sx.isFloatT Go.Sx.endVC Go.Sx.resFn Go.Sx.packC Go.Sx.newFn Go.Sx.storeFn Go.Sx.buildFn Go.Sx.known Go.Sx.aggT Go.Sx.cellsC Go.Sx.findCon Go.Sx.allV Go.Sx.partsV Go.Sx.partsC Go.Sx.fillL Go.Sx.exitTo Go.Sx.fAr Go.Sx.eqFn Go.Sx.eqFieldsFn Go.Sx.eqElemsFn Go.Sx.partFn Go.Sx.sliceFn Go.Sx.boundFn Go.Sx.AppV Go.Sx.CopyV Go.Sx.MakeSliceV Go.Sx.NewsV Go.Sx.GrowV Go.Sx.TextV Go.Sx.bytesL Go.Sx.notInt Go.Sx.typeAt Go.Sx.argAt Go.Sx.den Go.undef Go.Value.cells Go.Value.oneCell' Go.Sx.Con.pure Go.Sx.Con.some Go.Sx.Con.read Go.Sx.Con.make Go.Sx.Con.ext Go.Sx.Con.rel Go.Sx.Con.extS Go.Sx.Con.draw Go.Sx.Con.step Go.Sx.C.one Go.Sx.Draws.steps

theorem stackS_bd (l : List Bool) : 0 ≤ (stackS 16 l).1 ∧ (stackS 16 l).1 < 65536 := by
  have h := valL_bd _ (l.drop (l.length - 16)) rfl
  have h2 : (2 : Int) ^ (l.drop (l.length - 16)).length ≤ 2 ^ 16 := pow_mono2 (by rw [List.length_drop]; omega)
  unfold stackS
  simp only
  have : (2 : Int) ^ 16 = 65536 := rfl
  omega
theorem l1DrawC_c  (R : Rdr) (p : Int) (cx : Cx) (mem : List Blk) (w : World) (hty : R.ty = 152) (hR : R.Is (factF cx) mem) (hp : 0 ≤ p) (hpc : p + 30 ≤ 1125899906842624) (hpre : True) (hm : MemRel cx (mem.set R.k (R.blk p)) w) :
    Calls Tryz.prog 73 ((.p R.k R.b 0 :: [] : List C).map den).toArray w fun e w' => ∃ cx' x mem', e = .returned (den x) ∧ MemRel cx' mem' w' ∧ (fun cx' x mem' => ∃ v p', x = .v v ∧ mem' = mem.set R.k (R.blk p') ∧ Le cx cx' ∧ p ≤ p' ∧ p' ≤ p + 30 ∧ (∃ b n, v = .agg #[.int .u16 b, .int .i64 n] ∧ 0 ≤ b ∧ b < 65536)) cx' x mem' := by
  refine step_of_vcs ⟨[pickC, numC, l1StackG], []⟩ hmx Tryz.func73 rfl (by kernel_rfl) (args := .p R.k R.b 0 :: []) (by simp [Tryz.ntmps73]) hm (fun cx' x mem' => ∃ v p', x = .v v ∧ mem' = mem.set R.k (R.blk p') ∧ Le cx cx' ∧ p ≤ p' ∧ p' ≤ p + 30 ∧ (∃ b n, v = .agg #[.int .u16 b, .int .i64 n] ∧ 0 ≤ b ∧ b < 65536)) 400 ?_
  have hlt := hR.lt
  have hle := Le.refl cx
  simp (maxSteps := 4000000) -dsimp [-List.all_eq_true, -Array.all_eq_true, -Bool.exists_bool, -Bool.forall_bool, and_assoc, List.zipIdx, Tryz.f73, pickC, numC, l1StackG, hlt]
  intro b0 b1
  refine pickC_at hR hty hle ⟨by omega, by omega⟩ (by omega) ?_
  rintro cx1 _ p1 hle1 l1 q1 q2 ⟨n, rfl, n0, n1⟩
  simp (maxSteps := 4000000) -dsimp [-List.all_eq_true, -Array.all_eq_true, -Bool.exists_bool, -Bool.forall_bool, and_assoc, List.zipIdx, Tryz.f73, pickC, numC, l1StackG, hlt]
  refine pickC_at hR hty hle1 ⟨by omega, by omega⟩ (by omega) ?_
  rintro cx2 _ p2 hle2 l2 q3 q4 ⟨y, rfl, y0, y1⟩
  by_cases hy : y = 0
  · subst hy
    clear n0 n1
    simp (maxSteps := 4000000) -dsimp [-List.all_eq_true, -Array.all_eq_true, -Bool.exists_bool, -Bool.forall_bool, and_assoc, List.zipIdx, Tryz.f73, pickC, numC, l1StackG, hlt]
    intro cx6 lq hle6 hl6
    refine numC_lit hR hty (hle2.trans hle6) hl6 rfl rfl ⟨by omega, by omega⟩ (by decide) (by decide) ?_
    rintro cx7 _ p7 hle7 l7 d5 d6 ⟨n, rfl, hn⟩
    have hnb : 0 ≤ n ∧ n ≤ 16 := by simp [intsOf] at hn; omega
    simp (maxSteps := 4000000) -dsimp [-List.all_eq_true, -Array.all_eq_true, -Bool.exists_bool, -Bool.forall_bool, and_assoc, List.zipIdx, Tryz.f73, pickC, numC, l1StackG, hlt]
    refine loop_inv (σ := ⟨[pickC, numC, l1StackG], []⟩) hmx (by kernel_rfl) (fun q cx' tm mem' => Le cx cx' ∧ ∃ (i bX capX : Nat) (l : List Bool) (pad : List C) (p' : Int), i ≤ n.toNat ∧ q = n.toNat - i ∧ l.length = i ∧ l.length ≤ capX ∧ capX ≤ maxLen ∧ pad.length = capX - l.length ∧ mem' = mem.set R.k (R.blk p') ++ [⟨b0, [.v (.int .u16 0), .v (.int .i64 0)], 56⟩, ⟨bX, boolC l ++ pad, 4⟩] ∧ p ≤ p' ∧ p' ≤ p + 3 + i ∧ Sx.look tm 5 = .v (.int .i64 i) ∧ Sx.look tm 4 = .v (.int .i64 n) ∧ Sx.look tm 3 = .s (mem.length + 1) bX 0 l.length capX ∧ Sx.look tm 2 = .p mem.length b0 0 ∧ Sx.look tm 0 = .p R.k R.b 0)
      n.toNat ⟨hle7, 0, b1, 0, [], [], p7, by omega, rfl, rfl, by simp, by decide, rfl, rfl, by omega, by omega, by simp [Sx.look], by simp [Sx.look], by simp [Sx.look], by simp [Sx.look], by simp [Sx.look]⟩ ?_
    rintro q cx3 tm mem3 ⟨hle3, i, bX, capX, l, pad, p3, hi, rfl, hll, hlc, hcm, hpad, rfl, e1, e2, j5, j4, j3, j2, j0⟩
    refine ⟨400, ?_⟩
    by_cases hin : (i : Int) < n
    · simp (maxSteps := 4000000) -dsimp [-List.all_eq_true, -Array.all_eq_true, -Bool.exists_bool, -Bool.forall_bool, and_assoc, List.zipIdx, Tryz.f73, pickC, numC, l1StackG, hlt, List.getElem?_append, List.set_append, List.getElem?_set, j5, j4, j3, j2, j0, hin]
      refine pickC_at hR hty hle3 ⟨by omega, by omega⟩ (by omega) ?_
      rintro cx4 _ p4 hle4 l4 g1 g2 ⟨v, rfl, v0, v1⟩
      simp (maxSteps := 4000000) -dsimp [-List.all_eq_true, -Array.all_eq_true, -Bool.exists_bool, -Bool.forall_bool, and_assoc, List.zipIdx, Tryz.f73, pickC, numC, l1StackG, hlt, List.getElem?_append, List.set_append, List.getElem?_set, j5, j4, j3, j2, j0, hin]
      intro cx5 lit hle5 hl5
      rw [RdL.sl (hl5.mono ((sub_new cx5).trans (sub_now _ _))) (by rfl)]
      unfold GrowV
      have h5 : l.length + 1 ≤ maxLen := by unfold maxLen; omega
      have e0 := boolC_take l pad
      have e3 : (boolC l).length = l.length := boolC_len l
      simp (maxSteps := 4000000) -dsimp [-List.all_eq_true, -Array.all_eq_true, -Bool.exists_bool, -Bool.forall_bool, and_assoc, List.zipIdx, Tryz.f73, pickC, numC, l1StackG, hlt, List.getElem?_append, List.set_append, List.getElem?_set, j5, j4, j3, j2, j0, hin, e0, e3, h5, hlc, hcm, i_succ (i := i) (by omega)]
      refine ⟨by omega, by unfold maxLen at h5; omega, fun b' cap' pd g5 g6 g7 => ⟨mem.length + 2, n.toNat - (i + 1), by omega, hle4.trans hle5, i + 1, by omega, rfl, b', cap', l ++ [v == 1], by simp [hll], by simp; omega, g6, pd, by simp; omega, p4, ?_, by omega, by omega, by omega, rfl, by simp, rfl⟩⟩
      rw [List.take_of_length_le (by simp), boolC_snoc]
      simp
    · simp (maxSteps := 4000000) -dsimp [-List.all_eq_true, -Array.all_eq_true, -Bool.exists_bool, -Bool.forall_bool, and_assoc, List.zipIdx, Tryz.f73, pickC, numC, l1StackG, hlt, List.getElem?_append, List.set_append, List.getElem?_set, j5, j4, j3, j2, j0, hin, Con.gen]
      refine l1StackG_use (l := l) (pad := pad) rfl (by simp [List.getElem?_append]) (by omega) ?_
      intro cx4 hle4
      have hsb := stackS_bd l
      simp (maxSteps := 4000000) -dsimp [-List.all_eq_true, -Array.all_eq_true, -Bool.exists_bool, -Bool.forall_bool, and_assoc, List.zipIdx, Tryz.f73, pickC, numC, l1StackG, hlt, List.getElem?_append, List.set_append, List.getElem?_set, j5, j4, j3, j2, j0]
      intro b3
      refine pickC_at hR hty (hle3.trans hle4) ⟨by omega, by omega⟩ (by omega) ?_
      rintro cx5 _ p5 hle5 l5 g1 g2 ⟨v, rfl, v0, v1⟩
      by_cases h0 : v = 0
      · simp (maxSteps := 4000000) -dsimp [-List.all_eq_true, -Array.all_eq_true, -Bool.exists_bool, -Bool.forall_bool, and_assoc, List.zipIdx, Tryz.f73, pickC, numC, l1StackG, hlt, List.getElem?_append, List.set_append, List.getElem?_set, j5, j4, j3, j2, j0, h0]
        intro cx8 lq8 hle8 hl8
        refine numC_lit hR hty (hle5.trans hle8) hl8 rfl rfl ⟨by omega, by omega⟩ (by decide) (by decide) ?_
        rintro cx9 _ p9 hle9 l9 d7 d8 ⟨x, rfl, hx⟩
        simp (maxSteps := 4000000) -dsimp [-List.all_eq_true, -Array.all_eq_true, -Bool.exists_bool, -Bool.forall_bool, and_assoc, List.zipIdx, Tryz.f73, pickC, numC, l1StackG, hlt, List.getElem?_append, List.set_append, List.getElem?_set, j5, j4, j3, j2, j0]
        exact EndK.left ⟨_, _, rfl, rfl, hle9, by omega, by omega, _, _, rfl, hsb⟩
      by_cases h1 : v = 1
      · have h10 : ¬ (1 : Int) = 0 := by decide
        simp (maxSteps := 4000000) -dsimp [-List.all_eq_true, -Array.all_eq_true, -Bool.exists_bool, -Bool.forall_bool, and_assoc, List.zipIdx, Tryz.f73, pickC, numC, l1StackG, hlt, List.getElem?_append, List.set_append, List.getElem?_set, j5, j4, j3, j2, j0, h1]
        refine pickC_at hR hty hle5 ⟨by omega, by omega⟩ (by omega) ?_
        rintro cx8 _ p8 hle8 - e3 e4 ⟨x, rfl, x0, x1⟩
        simp (maxSteps := 4000000) -dsimp [-List.all_eq_true, -Array.all_eq_true, -Bool.exists_bool, -Bool.forall_bool, and_assoc, List.zipIdx, Tryz.f73, pickC, numC, l1StackG, hlt, List.getElem?_append, List.set_append, List.getElem?_set, j5, j4, j3, j2, j0]
        refine pickC_at hR hty hle8 ⟨by omega, by omega⟩ (by omega) ?_
        rintro cx9 _ p9 hle9 - e5 e6 ⟨z, rfl, z0, z1⟩
        have w1 : IntKind.i64.wrap (x * 256) = x * 256 := wrap_i64 (by omega) (by omega)
        have w2 : IntKind.i64.wrap (x * 256 + z) = x * 256 + z := wrap_i64 (by omega) (by omega)
        have w3 : IntKind.u16.wrap (x * 256 + z) = x * 256 + z := wrap_u16 (by omega) (by omega)
        simp (maxSteps := 4000000) -dsimp [-List.all_eq_true, -Array.all_eq_true, -Bool.exists_bool, -Bool.forall_bool, and_assoc, List.zipIdx, Tryz.f73, pickC, numC, l1StackG, hlt, List.getElem?_append, List.set_append, List.getElem?_set, j5, j4, j3, j2, j0, w1, w2, w3]
        exact EndK.left ⟨_, _, rfl, rfl, hle9, by omega, by omega, _, _, rfl, by omega, by omega⟩
      · simp (maxSteps := 4000000) -dsimp [-List.all_eq_true, -Array.all_eq_true, -Bool.exists_bool, -Bool.forall_bool, and_assoc, List.zipIdx, Tryz.f73, pickC, numC, l1StackG, hlt, List.getElem?_append, List.set_append, List.getElem?_set, j5, j4, j3, j2, j0, h0, h1]
        exact EndK.left ⟨_, _, rfl, rfl, hle5, by omega, by omega, _, _, rfl, hsb⟩
  · simp (maxSteps := 4000000) -dsimp [-List.all_eq_true, -Array.all_eq_true, -Bool.exists_bool, -Bool.forall_bool, and_assoc, List.zipIdx, Tryz.f73, pickC, numC, l1StackG, hlt, hy]
    have hnb : 0 ≤ n ∧ n ≤ 16 := by omega
    refine loop_inv (σ := ⟨[pickC, numC, l1StackG], []⟩) hmx (by kernel_rfl) (fun q cx' tm mem' => Le cx cx' ∧ ∃ (i bX capX : Nat) (l : List Bool) (pad : List C) (p' : Int), i ≤ n.toNat ∧ q = n.toNat - i ∧ l.length = i ∧ l.length ≤ capX ∧ capX ≤ maxLen ∧ pad.length = capX - l.length ∧ mem' = mem.set R.k (R.blk p') ++ [⟨b0, [.v (.int .u16 0), .v (.int .i64 0)], 56⟩, ⟨bX, boolC l ++ pad, 4⟩] ∧ p ≤ p' ∧ p' ≤ p + 3 + i ∧ Sx.look tm 5 = .v (.int .i64 i) ∧ Sx.look tm 4 = .v (.int .i64 n) ∧ Sx.look tm 3 = .s (mem.length + 1) bX 0 l.length capX ∧ Sx.look tm 2 = .p mem.length b0 0 ∧ Sx.look tm 0 = .p R.k R.b 0)
      n.toNat ⟨hle2, 0, b1, 0, [], [], p2, by omega, rfl, rfl, by simp, by decide, rfl, rfl, by omega, by omega, by simp [Sx.look], by simp [Sx.look], by simp [Sx.look], by simp [Sx.look], by simp [Sx.look]⟩ ?_
    rintro q cx3 tm mem3 ⟨hle3, i, bX, capX, l, pad, p3, hi, rfl, hll, hlc, hcm, hpad, rfl, e1, e2, j5, j4, j3, j2, j0⟩
    refine ⟨400, ?_⟩
    by_cases hin : (i : Int) < n
    · simp (maxSteps := 4000000) -dsimp [-List.all_eq_true, -Array.all_eq_true, -Bool.exists_bool, -Bool.forall_bool, and_assoc, List.zipIdx, Tryz.f73, pickC, numC, l1StackG, hlt, List.getElem?_append, List.set_append, List.getElem?_set, j5, j4, j3, j2, j0, hin]
      refine pickC_at hR hty hle3 ⟨by omega, by omega⟩ (by omega) ?_
      rintro cx4 _ p4 hle4 l4 g1 g2 ⟨v, rfl, v0, v1⟩
      simp (maxSteps := 4000000) -dsimp [-List.all_eq_true, -Array.all_eq_true, -Bool.exists_bool, -Bool.forall_bool, and_assoc, List.zipIdx, Tryz.f73, pickC, numC, l1StackG, hlt, List.getElem?_append, List.set_append, List.getElem?_set, j5, j4, j3, j2, j0, hin]
      intro cx5 lit hle5 hl5
      rw [RdL.sl (hl5.mono ((sub_new cx5).trans (sub_now _ _))) (by rfl)]
      unfold GrowV
      have h5 : l.length + 1 ≤ maxLen := by unfold maxLen; omega
      have e0 := boolC_take l pad
      have e3 : (boolC l).length = l.length := boolC_len l
      simp (maxSteps := 4000000) -dsimp [-List.all_eq_true, -Array.all_eq_true, -Bool.exists_bool, -Bool.forall_bool, and_assoc, List.zipIdx, Tryz.f73, pickC, numC, l1StackG, hlt, List.getElem?_append, List.set_append, List.getElem?_set, j5, j4, j3, j2, j0, hin, e0, e3, h5, hlc, hcm, i_succ (i := i) (by omega)]
      refine ⟨by omega, by unfold maxLen at h5; omega, fun b' cap' pd g5 g6 g7 => ⟨mem.length + 2, n.toNat - (i + 1), by omega, hle4.trans hle5, i + 1, by omega, rfl, b', cap', l ++ [v == 1], by simp [hll], by simp; omega, g6, pd, by simp; omega, p4, ?_, by omega, by omega, by omega, rfl, by simp, rfl⟩⟩
      rw [List.take_of_length_le (by simp), boolC_snoc]
      simp
    · simp (maxSteps := 4000000) -dsimp [-List.all_eq_true, -Array.all_eq_true, -Bool.exists_bool, -Bool.forall_bool, and_assoc, List.zipIdx, Tryz.f73, pickC, numC, l1StackG, hlt, List.getElem?_append, List.set_append, List.getElem?_set, j5, j4, j3, j2, j0, hin, Con.gen]
      refine l1StackG_use (l := l) (pad := pad) rfl (by simp [List.getElem?_append]) (by omega) ?_
      intro cx4 hle4
      have hsb := stackS_bd l
      simp (maxSteps := 4000000) -dsimp [-List.all_eq_true, -Array.all_eq_true, -Bool.exists_bool, -Bool.forall_bool, and_assoc, List.zipIdx, Tryz.f73, pickC, numC, l1StackG, hlt, List.getElem?_append, List.set_append, List.getElem?_set, j5, j4, j3, j2, j0]
      intro b3
      refine pickC_at hR hty (hle3.trans hle4) ⟨by omega, by omega⟩ (by omega) ?_
      rintro cx5 _ p5 hle5 l5 g1 g2 ⟨v, rfl, v0, v1⟩
      by_cases h0 : v = 0
      · simp (maxSteps := 4000000) -dsimp [-List.all_eq_true, -Array.all_eq_true, -Bool.exists_bool, -Bool.forall_bool, and_assoc, List.zipIdx, Tryz.f73, pickC, numC, l1StackG, hlt, List.getElem?_append, List.set_append, List.getElem?_set, j5, j4, j3, j2, j0, h0]
        intro cx8 lq8 hle8 hl8
        refine numC_lit hR hty (hle5.trans hle8) hl8 rfl rfl ⟨by omega, by omega⟩ (by decide) (by decide) ?_
        rintro cx9 _ p9 hle9 l9 d7 d8 ⟨x, rfl, hx⟩
        simp (maxSteps := 4000000) -dsimp [-List.all_eq_true, -Array.all_eq_true, -Bool.exists_bool, -Bool.forall_bool, and_assoc, List.zipIdx, Tryz.f73, pickC, numC, l1StackG, hlt, List.getElem?_append, List.set_append, List.getElem?_set, j5, j4, j3, j2, j0]
        exact EndK.left ⟨_, _, rfl, rfl, hle9, by omega, by omega, _, _, rfl, hsb⟩
      by_cases h1 : v = 1
      · have h10 : ¬ (1 : Int) = 0 := by decide
        simp (maxSteps := 4000000) -dsimp [-List.all_eq_true, -Array.all_eq_true, -Bool.exists_bool, -Bool.forall_bool, and_assoc, List.zipIdx, Tryz.f73, pickC, numC, l1StackG, hlt, List.getElem?_append, List.set_append, List.getElem?_set, j5, j4, j3, j2, j0, h1]
        refine pickC_at hR hty hle5 ⟨by omega, by omega⟩ (by omega) ?_
        rintro cx8 _ p8 hle8 - e3 e4 ⟨x, rfl, x0, x1⟩
        simp (maxSteps := 4000000) -dsimp [-List.all_eq_true, -Array.all_eq_true, -Bool.exists_bool, -Bool.forall_bool, and_assoc, List.zipIdx, Tryz.f73, pickC, numC, l1StackG, hlt, List.getElem?_append, List.set_append, List.getElem?_set, j5, j4, j3, j2, j0]
        refine pickC_at hR hty hle8 ⟨by omega, by omega⟩ (by omega) ?_
        rintro cx9 _ p9 hle9 - e5 e6 ⟨z, rfl, z0, z1⟩
        have w1 : IntKind.i64.wrap (x * 256) = x * 256 := wrap_i64 (by omega) (by omega)
        have w2 : IntKind.i64.wrap (x * 256 + z) = x * 256 + z := wrap_i64 (by omega) (by omega)
        have w3 : IntKind.u16.wrap (x * 256 + z) = x * 256 + z := wrap_u16 (by omega) (by omega)
        simp (maxSteps := 4000000) -dsimp [-List.all_eq_true, -Array.all_eq_true, -Bool.exists_bool, -Bool.forall_bool, and_assoc, List.zipIdx, Tryz.f73, pickC, numC, l1StackG, hlt, List.getElem?_append, List.set_append, List.getElem?_set, j5, j4, j3, j2, j0, w1, w2, w3]
        exact EndK.left ⟨_, _, rfl, rfl, hle9, by omega, by omega, _, _, rfl, by omega, by omega⟩
      · simp (maxSteps := 4000000) -dsimp [-List.all_eq_true, -Array.all_eq_true, -Bool.exists_bool, -Bool.forall_bool, and_assoc, List.zipIdx, Tryz.f73, pickC, numC, l1StackG, hlt, List.getElem?_append, List.set_append, List.getElem?_set, j5, j4, j3, j2, j0, h0, h1]
        exact EndK.left ⟨_, _, rfl, rfl, hle5, by omega, by omega, _, _, rfl, hsb⟩
def l1DrawC_S : Draws Tryz.prog 152 30 73 where
  ι := Unit
  A := fun (_u : Unit) => []
  pre := fun (_u : Unit) (F : Facts) => True
  post := fun (_u : Unit) (v : Value) (F : Facts) => ∃ b n, v = .agg #[.int .u16 b, .int .i64 n] ∧ 0 ≤ b ∧ b < 65536
  mono := fun _ _ _ _ _ => trivial
  enter := Tryz.call73
  h := fun _u R p cx mem w h1 h2 h3 h4 h5 h6 => l1DrawC_c  R p cx mem w h1 h2 h3 h4 h5 h6
def l1DrawC : Con Tryz.prog := Con.draw l1DrawC_S
theorem l1DrawC_at  {d : Nat} {R : Rdr} {cx0 cx : Cx} {mem0 : List Blk} {ex : List Blk} {K : Cx → C → List Blk → Prop} {p : Int} (hR : R.Is (factF cx0) mem0) (hty : R.ty = 152) (hle : Le cx0 cx) (hp : 0 ≤ p ∧ p + 30 ≤ 1125899906842624) (hpre : True)
    (h : ∀ cx' v p', Le cx0 cx' → Le cx cx' → p ≤ p' → p' ≤ p + 30 → (∃ b n, v = .agg #[.int .u16 b, .int .i64 n] ∧ 0 ≤ b ∧ b < 65536) → K cx' (.v v) (mem0.set R.k (R.blk p') ++ ex)) :
    DrawV d l1DrawC_S cx [.p R.k R.b 0] (mem0.set R.k (R.blk p) ++ ex) K := DrawV.at (S := l1DrawC_S) hR hty hle () hp hpre h
theorem l1DrawC_at0  {d : Nat} {R : Rdr} {cx0 cx : Cx} {mem0 : List Blk} {K : Cx → C → List Blk → Prop} {p : Int} (hR : R.Is (factF cx0) mem0) (hty : R.ty = 152) (hle : Le cx0 cx) (hp : 0 ≤ p ∧ p + 30 ≤ 1125899906842624) (hpre : True)
    (h : ∀ cx' v p', Le cx0 cx' → Le cx cx' → p ≤ p' → p' ≤ p + 30 → (∃ b n, v = .agg #[.int .u16 b, .int .i64 n] ∧ 0 ≤ b ∧ b < 65536) → K cx' (.v v) (mem0.set R.k (R.blk p'))) :
    DrawV d l1DrawC_S cx [.p R.k R.b 0] (mem0.set R.k (R.blk p)) K := DrawV.at0 (S := l1DrawC_S) hR hty hle () hp hpre h
theorem l1DrawForkC_c  (R : Rdr) (p : Int) (cx : Cx) (mem : List Blk) (w : World) (hty : R.ty = 152) (hR : R.Is (factF cx) mem) (hp : 0 ≤ p) (hpc : p + 40 ≤ 1125899906842624) (hpre : True) (hm : MemRel cx (mem.set R.k (R.blk p)) w) :
    Calls Tryz.prog 74 ((.p R.k R.b 0 :: [] : List C).map den).toArray w fun e w' => ∃ cx' x mem', e = .returned (den x) ∧ MemRel cx' mem' w' ∧ (fun cx' x mem' => ∃ v p', x = .v v ∧ mem' = mem.set R.k (R.blk p') ∧ Le cx cx' ∧ p ≤ p' ∧ p' ≤ p + 40 ∧ (∃ b n, v = .agg #[.int .u8 b, .int .i64 n] ∧ 0 ≤ b ∧ b < 256)) cx' x mem' := by
  refine step_of_vcs ⟨[l1DrawC, l1SmallC, pickC, numC], []⟩ hmx Tryz.func74 rfl (by kernel_rfl) (args := .p R.k R.b 0 :: []) (by simp [Tryz.ntmps74]) hm (fun cx' x mem' => ∃ v p', x = .v v ∧ mem' = mem.set R.k (R.blk p') ∧ Le cx cx' ∧ p ≤ p' ∧ p' ≤ p + 40 ∧ (∃ b n, v = .agg #[.int .u8 b, .int .i64 n] ∧ 0 ≤ b ∧ b < 256)) 400 ?_
  have hlt := hR.lt
  have hle := Le.refl cx
  simp (maxSteps := 4000000) -dsimp [-List.all_eq_true, -Array.all_eq_true, -Bool.exists_bool, -Bool.forall_bool, and_assoc, List.zipIdx, Tryz.f74, l1DrawC, l1SmallC, pickC, numC, hlt]
  intro b0
  refine l1DrawC_at hR hty hle ⟨by omega, by omega⟩ trivial ?_
  rintro cx1 _ p1 hle1 - q1 q2 ⟨b, n, rfl, hb⟩
  have hm : 0 ≤ b % 256 ∧ b % 256 < 256 := by omega
  simp (maxSteps := 4000000) -dsimp [-List.all_eq_true, -Array.all_eq_true, -Bool.exists_bool, -Bool.forall_bool, and_assoc, List.zipIdx, Tryz.f74, l1DrawC, l1SmallC, pickC, numC, hlt, hb, List.getElem?_append, List.set_append, List.getElem?_set]
  intro b1
  refine pickC_at hR hty hle1 ⟨by omega, by omega⟩ (by omega) ?_
  rintro cx2 _ p2 hle2 l2 q3 q4 ⟨y, rfl, y0, y1⟩
  by_cases hy0 : y = 0
  · simp (maxSteps := 4000000) -dsimp [-List.all_eq_true, -Array.all_eq_true, -Bool.exists_bool, -Bool.forall_bool, and_assoc, List.zipIdx, Tryz.f74, l1DrawC, l1SmallC, pickC, numC, hlt, List.getElem?_append, List.set_append, List.getElem?_set, hy0]
    intro cx3 lq hle3 hl3
    refine numC_lit hR hty (hle2.trans hle3) hl3 rfl rfl ⟨by omega, by omega⟩ (by decide) (by decide) ?_
    rintro cx4 _ p4 hle4 l4 d5 d6 ⟨x, rfl, hx⟩
    simp (maxSteps := 4000000) -dsimp [-List.all_eq_true, -Array.all_eq_true, -Bool.exists_bool, -Bool.forall_bool, and_assoc, List.zipIdx, Tryz.f74, l1DrawC, l1SmallC, pickC, numC, hlt, List.getElem?_append, List.set_append, List.getElem?_set]
    exact EndK.left ⟨_, _, rfl, rfl, hle4, by omega, by omega, _, _, rfl, hm⟩
  by_cases hy1 : y = 1
  · have hn : ¬ (1 : Int) = 0 := by decide
    simp (maxSteps := 4000000) -dsimp [-List.all_eq_true, -Array.all_eq_true, -Bool.exists_bool, -Bool.forall_bool, and_assoc, List.zipIdx, Tryz.f74, l1DrawC, l1SmallC, pickC, numC, hlt, List.getElem?_append, List.set_append, List.getElem?_set, hy1]
    refine pickC_at hR hty hle2 ⟨by omega, by omega⟩ (by omega) ?_
    rintro cx4 _ p4 hle4 l4 d5 d6 ⟨x, rfl, x0, x1⟩
    have hw : IntKind.u8.wrap x = x := wrap_u8 (by omega) (by omega)
    simp (maxSteps := 4000000) -dsimp [-List.all_eq_true, -Array.all_eq_true, -Bool.exists_bool, -Bool.forall_bool, and_assoc, List.zipIdx, Tryz.f74, l1DrawC, l1SmallC, pickC, numC, hlt, List.getElem?_append, List.set_append, List.getElem?_set, hw]
    exact EndK.left ⟨_, _, rfl, rfl, hle4, by omega, by omega, _, _, rfl, by omega, by omega⟩
  · simp (maxSteps := 4000000) -dsimp [-List.all_eq_true, -Array.all_eq_true, -Bool.exists_bool, -Bool.forall_bool, and_assoc, List.zipIdx, Tryz.f74, l1DrawC, l1SmallC, pickC, numC, hlt, List.getElem?_append, List.set_append, List.getElem?_set, hy0, hy1]
    exact EndK.left ⟨_, _, rfl, rfl, hle2, by omega, by omega, _, _, rfl, hm⟩
def l1DrawForkC_S : Draws Tryz.prog 152 40 74 where
  ι := Unit
  A := fun (_u : Unit) => []
  pre := fun (_u : Unit) (F : Facts) => True
  post := fun (_u : Unit) (v : Value) (F : Facts) => ∃ b n, v = .agg #[.int .u8 b, .int .i64 n] ∧ 0 ≤ b ∧ b < 256
  mono := fun _ _ _ _ _ => trivial
  enter := Tryz.call74
  h := fun _u R p cx mem w h1 h2 h3 h4 h5 h6 => l1DrawForkC_c  R p cx mem w h1 h2 h3 h4 h5 h6
def l1DrawForkC : Con Tryz.prog := Con.draw l1DrawForkC_S
theorem l1DrawForkC_at0  {d : Nat} {R : Rdr} {cx0 cx : Cx} {mem0 : List Blk} {K : Cx → C → List Blk → Prop} {p : Int} (hR : R.Is (factF cx0) mem0) (hty : R.ty = 152) (hle : Le cx0 cx) (hp : 0 ≤ p ∧ p + 40 ≤ 1125899906842624) (hpre : True)
    (h : ∀ cx' v p', Le cx0 cx' → Le cx cx' → p ≤ p' → p' ≤ p + 40 → (∃ b n, v = .agg #[.int .u8 b, .int .i64 n] ∧ 0 ≤ b ∧ b < 256) → K cx' (.v v) (mem0.set R.k (R.blk p'))) :
    DrawV d l1DrawForkC_S cx [.p R.k R.b 0] (mem0.set R.k (R.blk p)) K := DrawV.at0 (S := l1DrawForkC_S) hR hty hle () hp hpre h
end Go.Proofs.YtfhnbdlkiemaeaaGreat
namespace Go.Proofs.YtfhnbdlkiemaeaaGreat
open Go Go.Sx
attribute [local simp] Go.Sx.vcsE1 Go.Sx.vcsE2 Go.Sx.vcsE3 Go.Sx.vcsE4 Go.Sx.vcsE5 Go.Sx.vcsE6 Go.Sx.vcsE7 Go.Sx.vcsE8 Go.Sx.vcsE9 Go.Sx.vcsE10 Go.Sx.vcsE11 Go.Sx.vcsE12 Go.Sx.vcsE13 Go.Sx.vcsE14 Go.Sx.vcsE15 Go.Sx.vcsE16 Go.Sx.vcsE17 Go.Sx.vcsE18 Go.Sx.vcsE19 Go.Sx.get Go.Sx.look Go.Sx.put Go.Sx.pureFn Go.Sx.findOrd Go.Sx.unF Go.Sx.dstOk Go.Sx.isFloatT Go.Sx.endVC Go.Sx.resFn Go.Sx.packC Go.Sx.newFn Go.Sx.storeFn Go.Sx.buildFn Go.Sx.known Go.Sx.aggT Go.Sx.cellsC Go.Sx.findCon Go.Sx.allV Go.Sx.partsV Go.Sx.partsC Go.Sx.fillL Go.Sx.exitTo Go.Sx.fAr Go.Sx.eqFn Go.Sx.eqFieldsFn Go.Sx.eqElemsFn Go.Sx.partFn Go.Sx.sliceFn Go.Sx.boundFn Go.Sx.AppV Go.Sx.CopyV Go.Sx.MakeSliceV Go.Sx.NewsV Go.Sx.GrowV Go.Sx.TextV Go.Sx.bytesL Go.Sx.notInt Go.Sx.typeAt Go.Sx.argAt Go.Sx.den Go.undef Go.Value.cells Go.Value.oneCell' Go.Sx.Con.pure Go.Sx.Con.some Go.Sx.Con.read Go.Sx.Con.make Go.Sx.Con.ext Go.Sx.Con.rel Go.Sx.Con.extS Go.Sx.Con.draw Go.Sx.Con.step Go.Sx.C.one Go.Sx.Draws.steps

theorem zero_st' : zeroL Tryz.prog 60 = some (stL (bootN zeroM)) := by kernel_rfl

theorem st_buildW (sb sn fb fn : Int) : (List.take 138 (List.take 136 (stL (bootN zeroM)) ++ Value.int .u16 sb :: Value.int .i64 sn :: List.drop 138 (stL (bootN zeroM))) ++ Value.int .u8 fb :: Value.int .i64 fn ::
    List.drop 140 (List.take 136 (stL (bootN zeroM)) ++ Value.int .u16 sb :: Value.int .i64 sn :: List.drop 138 (stL (bootN zeroM)))).toArray = stA ⟨zeroM, (sb, sn), (fb, fn)⟩ := by kernel_rfl
theorem drawMachStepC_c (o : Option Addr) (cap : Nat) (bs : List Int) (cx : Cx) (mem : List Blk) (w : World) (hpre : RdB (factF cx) o bs ∧ (∀ b ∈ bs, 0 ≤ b ∧ b < 256) ∧ bs.length ≤ cap ∧ cap ≤ maxLen) (hm : MemRel cx mem w) :
    Calls Tryz.prog 28 (([.v (.slice o bs.length cap)] : List C).map den).toArray w fun e w' => ∃ cx' c mem', e = .returned (den c) ∧ MemRel cx' mem' w' ∧ Le cx cx' ∧ mem' = mem ∧ ∃ (t : MS) (code op : Int) (o1 : Option Addr) (cap1 : Nat) (xs : List Dev) (dt : Int), c = .v (.tuple #[.agg (stA t), .agg #[.int .i64 code, .int .i64 op, .slice o1 (List.length xs) cap1], .int .u16 dt]) ∧ MSOk t ∧ RdD (factF cx') o1 xs ∧ List.length xs ≤ 1000 ∧ 0 ≤ dt ∧ dt < 65536 := by
  refine step_of_vcs ⟨[l10OpenC, pickC, l1DrawC, l1DrawForkC, l7InstC, l4AnyC, l4SpoilC, l5DrawC], [(12, [(0, false), (1, false), (2, false), (3, false), (0, true), (1, true), (4, false), (5, false), (1, true), (6, false), (7, false)])]⟩ hmx Tryz.func28 rfl (by kernel_rfl) (args := [.v (.slice o bs.length cap)]) (by simp [Tryz.ntmps28]) hm (fun cx' c mem' => Le cx cx' ∧ mem' = mem ∧ ∃ (t : MS) (code op : Int) (o1 : Option Addr) (cap1 : Nat) (xs : List Dev) (dt : Int), c = .v (.tuple #[.agg (stA t), .agg #[.int .i64 code, .int .i64 op, .slice o1 (List.length xs) cap1], .int .u16 dt]) ∧ MSOk t ∧ RdD (factF cx') o1 xs ∧ List.length xs ≤ 1000 ∧ 0 ≤ dt ∧ dt < 65536) 400 ?_
  simp (maxSteps := 4000000) -dsimp [-List.all_eq_true, -Array.all_eq_true, -Bool.exists_bool, -Bool.forall_bool, and_assoc, List.zipIdx, Tryz.f28, l10OpenC, pickC, l1DrawC, l1DrawForkC, l7InstC, l4AnyC, l4SpoilC, l5DrawC, Con.gen, zero_st']
  intro b0 b1
  refine l10OpenC_at hpre ?_
  rintro cx1 c mem1 ⟨R, mem0, p, rfl, rfl, hp, hR, hty, hle1, h1, h2, h3⟩
  have hk0 := take_get h1 mem.length (by simp)
  have hk1 := take_get h1 (mem.length + 1) (by simp)
  simp at hk0 hk1 h2 h3
  have hj0 := (List.getElem?_eq_some_iff.1 hk0).2
  have hj1 := (List.getElem?_eq_some_iff.1 hk1).2
  have hn0 : ¬ R.k = mem.length := by omega
  have hn1 : ¬ R.k = mem.length + 1 := by omega
  have ht : mem0.take mem.length = mem := by
    have := congrArg (List.take mem.length) h1
    rw [List.take_take] at this
    simpa using this
  have a1 : mem.length < mem.length + 2 + 1 := by omega
  have a2 : mem.length + 1 < mem.length + 2 + 1 := by omega
  have hlt := hR.lt
  have hle := Le.refl cx1
  have fin : ∀ {cx' : Cx} {p' : Int} {ex : List Blk} {B0 B1 : Blk} {t : MS} {code op : Int} {o1 : Option Addr} {cap1 : Nat} {xs : List Dev} {dt : Int}, Le cx1 cx' → MSOk t → RdD (factF cx') o1 xs → xs.length ≤ 1000 → 0 ≤ dt ∧ dt < 65536 →
      EndK 2 (fun cx' c mem' => Le cx cx' ∧ mem' = mem ∧ ∃ (t : MS) (code op : Int) (o1 : Option Addr) (cap1 : Nat) (xs : List Dev) (dt : Int), c = .v (.tuple #[.agg (stA t), .agg #[.int .i64 code, .int .i64 op, .slice o1 (List.length xs) cap1], .int .u16 dt]) ∧ MSOk t ∧ RdD (factF cx') o1 xs ∧ List.length xs ≤ 1000 ∧ 0 ≤ dt ∧ dt < 65536)
        cx' (.v (.tuple #[.agg (stA t), .agg #[.int .i64 code, .int .i64 op, .slice o1 xs.length cap1], .int .u16 dt])) (((mem0.set R.k (R.blk p')).set mem.length B0).set (mem.length + 1) B1 ++ ex) := by
    intro cx' p' ex B0 B1 t code op o1 cap1 xs dt g1 g2 g3 g4 g5
    refine EndK.plain mem.length ⟨hle1.trans g1, ?_, t, code, op, o1, cap1, xs, dt, rfl, g2, g3, g4, g5⟩
    rw [List.take_append_of_le_length (by simp; omega), List.take_set_of_le (by omega), List.take_set_of_le (by omega), List.take_set_of_le (by omega), ht]
  simp (maxSteps := 4000000) -dsimp [-List.all_eq_true, -Array.all_eq_true, -Bool.exists_bool, -Bool.forall_bool, and_assoc, List.zipIdx, Tryz.f28, l10OpenC, pickC, l1DrawC, l1DrawForkC, l7InstC, l4AnyC, l4SpoilC, l5DrawC]
  refine l1DrawC_at0 hR hty hle ⟨by omega, by omega⟩ trivial ?_
  rintro cx2 _ p2 hle2 - c1 c2 ⟨sb, sn, rfl, hsb⟩
  simp (maxSteps := 4000000) -dsimp [-List.all_eq_true, -Array.all_eq_true, -Bool.exists_bool, -Bool.forall_bool, and_assoc, List.zipIdx, Tryz.f28, l10OpenC, pickC, l1DrawC, l1DrawForkC, l7InstC, l4AnyC, l4SpoilC, l5DrawC, hlt, hk0, hk1, hj0, hj1, h3, hn0, hn1, a1, a2, List.getElem?_append, List.set_append, List.getElem?_set]
  refine l1DrawForkC_at0 hR hty hle2 ⟨by omega, by omega⟩ trivial ?_
  rintro cx3 _ p3 hle3 - c3 c4 ⟨fb, fn, rfl, hfb⟩
  simp (maxSteps := 4000000) -dsimp [-List.all_eq_true, -Array.all_eq_true, -Bool.exists_bool, -Bool.forall_bool, and_assoc, List.zipIdx, Tryz.f28, l10OpenC, pickC, l1DrawC, l1DrawForkC, l7InstC, l4AnyC, l4SpoilC, l5DrawC, hlt, hk0, hk1, hj0, hj1, h3, hn0, hn1, a1, a2, List.getElem?_append, List.set_append, List.getElem?_set, zero_st', len_stL, st_buildW]
  intro b2
  refine l7InstC_at hR hty hle3 ⟨by omega, by omega⟩ trivial ?_
  rintro cx4 _ p4 hle4 - c5 c6 ⟨⟨ic, iop, ixs⟩, ⟨⟨io, icap, rfl, ihd, -, -⟩⟩, ihl⟩
  have ihl : ixs.length ≤ 3 := ihl
  simp (maxSteps := 4000000) -dsimp [-List.all_eq_true, -Array.all_eq_true, -Bool.exists_bool, -Bool.forall_bool, and_assoc, List.zipIdx, Tryz.f28, l10OpenC, pickC, l1DrawC, l1DrawForkC, l7InstC, l4AnyC, l4SpoilC, l5DrawC, hlt, hk0, hk1, hj0, hj1, h3, hn0, hn1, a1, a2, List.getElem?_append, List.set_append, List.getElem?_set]
  intro b4
  refine pickC_at hR hty hle4 ⟨by omega, by omega⟩ (by omega) ?_
  rintro cx5 _ p5 hle5 l5 d1 d2 ⟨y, rfl, y0, y1⟩
  by_cases hy0 : y = 0
  · simp (maxSteps := 4000000) -dsimp [-List.all_eq_true, -Array.all_eq_true, -Bool.exists_bool, -Bool.forall_bool, and_assoc, List.zipIdx, Tryz.f28, l10OpenC, pickC, l1DrawC, l1DrawForkC, l7InstC, l4AnyC, l4SpoilC, l5DrawC, hlt, hk0, hk1, hj0, hj1, h3, hn0, hn1, a1, a2, List.getElem?_append, List.set_append, List.getElem?_set, hy0]
    refine pickC_at hR hty hle5 ⟨by omega, by omega⟩ (by omega) ?_
    rintro cx6 _ p6 hle6 l6 d3 d4 ⟨cd, rfl, cd0, cd1⟩
    have hcw : IntKind.i64.wrap (cd - 1) = cd - 1 := wrap_i64 (by omega) (by omega)
    simp (maxSteps := 4000000) -dsimp [-List.all_eq_true, -Array.all_eq_true, -Bool.exists_bool, -Bool.forall_bool, and_assoc, List.zipIdx, Tryz.f28, l10OpenC, pickC, l1DrawC, l1DrawForkC, l7InstC, l4AnyC, l4SpoilC, l5DrawC, hlt, hk0, hk1, hj0, hj1, h3, hn0, hn1, a1, a2, List.getElem?_append, List.set_append, List.getElem?_set, hcw]
    refine l5DrawC_at hR hty hle6 ⟨by omega, by omega⟩ trivial ?_
    rintro cx8 _ p8 hle8 l8 c7 c8 ⟨m, rfl, hm⟩
    simp (maxSteps := 4000000) -dsimp [-List.all_eq_true, -Array.all_eq_true, -Bool.exists_bool, -Bool.forall_bool, and_assoc, List.zipIdx, Tryz.f28, l10OpenC, pickC, l1DrawC, l1DrawForkC, l7InstC, l4AnyC, l4SpoilC, l5DrawC, hlt, hk0, hk1, hj0, hj1, h3, hn0, hn1, a1, a2, List.getElem?_append, List.set_append, List.getElem?_set, st_put]
    refine pickC_at hR hty hle8 ⟨by omega, by omega⟩ (by omega) ?_
    rintro cx9 _ p9 hle9 l9 c9 c10 ⟨dt, rfl, dt0, dt1⟩
    have hdw := wrap_u16 (x := dt) (by omega) (by omega)
    simp (maxSteps := 4000000) -dsimp [-List.all_eq_true, -Array.all_eq_true, -Bool.exists_bool, -Bool.forall_bool, and_assoc, List.zipIdx, Tryz.f28, l10OpenC, pickC, l1DrawC, l1DrawForkC, l7InstC, l4AnyC, l4SpoilC, l5DrawC, hlt, hk0, hk1, hj0, hj1, h3, hn0, hn1, a1, a2, List.getElem?_append, List.set_append, List.getElem?_set, st_put, hdw]
    exact fin hle9 ⟨hm, hsb, hfb⟩ (ihd.mono (((l5.trans l6).trans l8).trans l9).fact) (by omega) (by omega)
  by_cases hy1 : y = 1
  · have h10 : ¬ (1 : Int) = 0 := by decide
    simp (maxSteps := 4000000) -dsimp [-List.all_eq_true, -Array.all_eq_true, -Bool.exists_bool, -Bool.forall_bool, and_assoc, List.zipIdx, Tryz.f28, l10OpenC, pickC, l1DrawC, l1DrawForkC, l7InstC, l4AnyC, l4SpoilC, l5DrawC, hlt, hk0, hk1, hj0, hj1, h3, hn0, hn1, a1, a2, List.getElem?_append, List.set_append, List.getElem?_set, hy1]
    refine l4AnyC_at hR hty hle5 ⟨by omega, by omega⟩ trivial ?_
    rintro cx6 _ p6 hle6 - d3 d4 ⟨op', xs', ⟨⟨eo', ecap', rfl, hd', -, -⟩⟩, hxl'⟩
    simp (maxSteps := 4000000) -dsimp [-List.all_eq_true, -Array.all_eq_true, -Bool.exists_bool, -Bool.forall_bool, and_assoc, List.zipIdx, Tryz.f28, l10OpenC, pickC, l1DrawC, l1DrawForkC, l7InstC, l4AnyC, l4SpoilC, l5DrawC, hlt, hk0, hk1, hj0, hj1, h3, hn0, hn1, a1, a2, List.getElem?_append, List.set_append, List.getElem?_set]
    refine l5DrawC_at hR hty hle6 ⟨by omega, by omega⟩ trivial ?_
    rintro cx8 _ p8 hle8 l8 c7 c8 ⟨m, rfl, hm⟩
    simp (maxSteps := 4000000) -dsimp [-List.all_eq_true, -Array.all_eq_true, -Bool.exists_bool, -Bool.forall_bool, and_assoc, List.zipIdx, Tryz.f28, l10OpenC, pickC, l1DrawC, l1DrawForkC, l7InstC, l4AnyC, l4SpoilC, l5DrawC, hlt, hk0, hk1, hj0, hj1, h3, hn0, hn1, a1, a2, List.getElem?_append, List.set_append, List.getElem?_set, st_put]
    refine pickC_at hR hty hle8 ⟨by omega, by omega⟩ (by omega) ?_
    rintro cx9 _ p9 hle9 l9 c9 c10 ⟨dt, rfl, dt0, dt1⟩
    have hdw := wrap_u16 (x := dt) (by omega) (by omega)
    simp (maxSteps := 4000000) -dsimp [-List.all_eq_true, -Array.all_eq_true, -Bool.exists_bool, -Bool.forall_bool, and_assoc, List.zipIdx, Tryz.f28, l10OpenC, pickC, l1DrawC, l1DrawForkC, l7InstC, l4AnyC, l4SpoilC, l5DrawC, hlt, hk0, hk1, hj0, hj1, h3, hn0, hn1, a1, a2, List.getElem?_append, List.set_append, List.getElem?_set, st_put, hdw]
    exact fin hle9 ⟨hm, hsb, hfb⟩ (hd'.mono (l8.trans l9).fact) (by omega) (by omega)
  by_cases hy2 : y = 2
  · have h10 : ¬ (2 : Int) = 0 := by decide
    simp (maxSteps := 4000000) -dsimp [-List.all_eq_true, -Array.all_eq_true, -Bool.exists_bool, -Bool.forall_bool, and_assoc, List.zipIdx, Tryz.f28, l10OpenC, pickC, l1DrawC, l1DrawForkC, l7InstC, l4AnyC, l4SpoilC, l5DrawC, hlt, hk0, hk1, hj0, hj1, h3, hn0, hn1, a1, a2, List.getElem?_append, List.set_append, List.getElem?_set, hy2]
    refine l4SpoilC_at hR hty hle5 ⟨by omega, by omega⟩ ⟨ihd.mono l5.fact, by omega⟩ ?_
    rintro cx6 _ p6 hle6 - d3 d4 ⟨op', xs', ⟨⟨eo', ecap', rfl, hd', -, -⟩⟩, hxl'⟩
    simp (maxSteps := 4000000) -dsimp [-List.all_eq_true, -Array.all_eq_true, -Bool.exists_bool, -Bool.forall_bool, and_assoc, List.zipIdx, Tryz.f28, l10OpenC, pickC, l1DrawC, l1DrawForkC, l7InstC, l4AnyC, l4SpoilC, l5DrawC, hlt, hk0, hk1, hj0, hj1, h3, hn0, hn1, a1, a2, List.getElem?_append, List.set_append, List.getElem?_set]
    refine l5DrawC_at hR hty hle6 ⟨by omega, by omega⟩ trivial ?_
    rintro cx8 _ p8 hle8 l8 c7 c8 ⟨m, rfl, hm⟩
    simp (maxSteps := 4000000) -dsimp [-List.all_eq_true, -Array.all_eq_true, -Bool.exists_bool, -Bool.forall_bool, and_assoc, List.zipIdx, Tryz.f28, l10OpenC, pickC, l1DrawC, l1DrawForkC, l7InstC, l4AnyC, l4SpoilC, l5DrawC, hlt, hk0, hk1, hj0, hj1, h3, hn0, hn1, a1, a2, List.getElem?_append, List.set_append, List.getElem?_set, st_put]
    refine pickC_at hR hty hle8 ⟨by omega, by omega⟩ (by omega) ?_
    rintro cx9 _ p9 hle9 l9 c9 c10 ⟨dt, rfl, dt0, dt1⟩
    have hdw := wrap_u16 (x := dt) (by omega) (by omega)
    simp (maxSteps := 4000000) -dsimp [-List.all_eq_true, -Array.all_eq_true, -Bool.exists_bool, -Bool.forall_bool, and_assoc, List.zipIdx, Tryz.f28, l10OpenC, pickC, l1DrawC, l1DrawForkC, l7InstC, l4AnyC, l4SpoilC, l5DrawC, hlt, hk0, hk1, hj0, hj1, h3, hn0, hn1, a1, a2, List.getElem?_append, List.set_append, List.getElem?_set, st_put, hdw]
    exact fin hle9 ⟨hm, hsb, hfb⟩ (hd'.mono (l8.trans l9).fact) (by omega) (by omega)
  · simp (maxSteps := 4000000) -dsimp [-List.all_eq_true, -Array.all_eq_true, -Bool.exists_bool, -Bool.forall_bool, and_assoc, List.zipIdx, Tryz.f28, l10OpenC, pickC, l1DrawC, l1DrawForkC, l7InstC, l4AnyC, l4SpoilC, l5DrawC, hlt, hk0, hk1, hj0, hj1, h3, hn0, hn1, a1, a2, List.getElem?_append, List.set_append, List.getElem?_set, hy0, hy1, hy2]
    refine l5DrawC_at hR hty hle5 ⟨by omega, by omega⟩ trivial ?_
    rintro cx8 _ p8 hle8 l8 c7 c8 ⟨m, rfl, hm⟩
    simp (maxSteps := 4000000) -dsimp [-List.all_eq_true, -Array.all_eq_true, -Bool.exists_bool, -Bool.forall_bool, and_assoc, List.zipIdx, Tryz.f28, l10OpenC, pickC, l1DrawC, l1DrawForkC, l7InstC, l4AnyC, l4SpoilC, l5DrawC, hlt, hk0, hk1, hj0, hj1, h3, hn0, hn1, a1, a2, List.getElem?_append, List.set_append, List.getElem?_set, st_put]
    refine pickC_at hR hty hle8 ⟨by omega, by omega⟩ (by omega) ?_
    rintro cx9 _ p9 hle9 l9 c9 c10 ⟨dt, rfl, dt0, dt1⟩
    have hdw := wrap_u16 (x := dt) (by omega) (by omega)
    simp (maxSteps := 4000000) -dsimp [-List.all_eq_true, -Array.all_eq_true, -Bool.exists_bool, -Bool.forall_bool, and_assoc, List.zipIdx, Tryz.f28, l10OpenC, pickC, l1DrawC, l1DrawForkC, l7InstC, l4AnyC, l4SpoilC, l5DrawC, hlt, hk0, hk1, hj0, hj1, h3, hn0, hn1, a1, a2, List.getElem?_append, List.set_append, List.getElem?_set, st_put, hdw]
    exact fin hle9 ⟨hm, hsb, hfb⟩ (ihd.mono ((l5.trans l8).trans l9).fact) (by omega) (by omega)
def drawMachStepC_S : Gens Tryz.prog 28 where
  ι := ((Option Addr) × (Nat) × (List Int))
  A := fun (i : ((Option Addr) × (Nat) × (List Int))) => match i with | (o, cap, bs) => [.v (.slice o bs.length cap)]
  pre := fun (i : ((Option Addr) × (Nat) × (List Int))) (cx : Cx) (mem : List Blk) => match i with | (o, cap, bs) => RdB (factF cx) o bs ∧ (∀ b ∈ bs, 0 ≤ b ∧ b < 256) ∧ bs.length ≤ cap ∧ cap ≤ maxLen
  post := fun (i : ((Option Addr) × (Nat) × (List Int))) (cx : Cx) (mem : List Blk) (cx' : Cx) (c : C) (mem' : List Blk) => match i with | (o, cap, bs) => Le cx cx' ∧ mem' = mem ∧ ∃ (t : MS) (code op : Int) (o1 : Option Addr) (cap1 : Nat) (xs : List Dev) (dt : Int), c = .v (.tuple #[.agg (stA t), .agg #[.int .i64 code, .int .i64 op, .slice o1 (List.length xs) cap1], .int .u16 dt]) ∧ MSOk t ∧ RdD (factF cx') o1 xs ∧ List.length xs ≤ 1000 ∧ 0 ≤ dt ∧ dt < 65536
  enter := Tryz.call28
  h := fun i cx mem w hp hm => drawMachStepC_c i.1 i.2.1 i.2.2 cx mem w hp hm
def drawMachStepC : Con Tryz.prog := Con.gen drawMachStepC_S
theorem drawMachStepC_at {o : Option Addr} {cap : Nat} {bs : List Int} {d : Nat} {cx : Cx} {mem : List Blk} {K : Cx → C → List Blk → Prop} (hpre : RdB (factF cx) o bs ∧ (∀ b ∈ bs, 0 ≤ b ∧ b < 256) ∧ bs.length ≤ cap ∧ cap ≤ maxLen) (h : ∀ cx' c mem', (Le cx cx' ∧ mem' = mem ∧ ∃ (t : MS) (code op : Int) (o1 : Option Addr) (cap1 : Nat) (xs : List Dev) (dt : Int), c = .v (.tuple #[.agg (stA t), .agg #[.int .i64 code, .int .i64 op, .slice o1 (List.length xs) cap1], .int .u16 dt]) ∧ MSOk t ∧ RdD (factF cx') o1 xs ∧ List.length xs ≤ 1000 ∧ 0 ≤ dt ∧ dt < 65536) → K cx' c mem') : GenV d drawMachStepC_S cx [.v (.slice o bs.length cap)] mem K := ⟨(o, cap, bs), rfl, hpre, h⟩
end Go.Proofs.YtfhnbdlkiemaeaaGreat
