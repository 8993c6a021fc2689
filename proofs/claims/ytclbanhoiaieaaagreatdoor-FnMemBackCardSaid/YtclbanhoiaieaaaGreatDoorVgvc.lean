/-
  Contracts: a real number read out of its text, by the program.
-/
import Derived.Test.YtclbanhoiaieaaaGreatDoorVhvc
import Derived.Test.YtclbanhoiaieaaaGreatDoorVevc
import Derived.Test.YtclbanhoiaieaaaGreatDoorTyvc
set_option linter.unusedVariables false
set_option linter.unusedSimpArgs false
set_option maxRecDepth 100000
set_option maxHeartbeats 4000000
namespace Go.Proofs.YtclbanhoiaieaaaGreatDoor
open Go Go.Sx
open List renaming all_eq_true → Y1, zipIdx → Y5
open Bool renaming exists_bool → Y3, forall_bool → Y4
attribute [local simp] Sx.vcsE1 Sx.vcsE2 Sx.vcsE3 Sx.vcsE4 Sx.vcsE5 Sx.vcsE6 Sx.vcsE7 Sx.vcsE8 Sx.vcsE9 Sx.vcsE10 Sx.vcsE11 Sx.vcsE12 Sx.vcsE13 Sx.vcsE14 Sx.vcsE15 Sx.vcsE16 Sx.vcsE17 Sx.vcsE18 Sx.vcsE19 Sx.get Sx.look Sx.put Sx.pureFn Sx.findOrd Sx.unF Sx.dstOk Sx.isFloatT Sx.endVC Sx.resFn Sx.packC Sx.newFn Sx.storeFn Sx.buildFn Sx.known Sx.aggT Sx.cellsC Sx.findCon Sx.allV Sx.partsV Sx.partsC Sx.fillL Sx.exitTo Sx.fAr Sx.eqFn Sx.eqFieldsFn Sx.eqElemsFn Sx.partFn Sx.sliceFn Sx.boundFn Sx.AppV Sx.CopyV Sx.MakeSliceV Sx.NewsV Sx.GrowV Sx.TextV Sx.bytesL Sx.notInt Sx.typeAt Sx.argAt Sx.den Go.undef Go.Value.cells Go.Value.oneCell' Sx.Con.pure Sx.Con.some Sx.Con.read Sx.Con.make Sx.Con.ext Sx.Con.rel Sx.Con.extS Sx.Con.draw Sx.Con.step Sx.C.one Sx.Draws.steps

def atoiE_S : Rels Tryz.prog 197 where
  ι := Str
  A i := [.string (txt i)]
  pre i F := TX F ∧ i.length ≤ 2000000
  post i v := ∃ e, v = .tuple #[.int .i64 (atoiV i), e] ∧ (e = .nilIface ∨ ∃ t p, e = .iface t p) ∧ (∀ n, Lib.atoiAll i = .ok n → e = .nilIface)
  mono i F G hs h := ⟨h.1.mono hs, h.2⟩
  enter := Tryz.call197
  h := by
    rintro s w ⟨ht, hl⟩
    rcases hq : Lib.atoiAll s with n | _ | _
    ·
      have e0 : atoiV s = n := by unfold atoiV; rw [hq]
      refine (Tryz.strconv_Atoi_ok (txt s) (by rw [txt_size]; omega) n hq w).mono ?_
      rintro e w' ⟨rfl, hw⟩
      refine ⟨_, rfl, ⟨_, by rw [e0], Or.inl rfl, fun _ _ => rfl⟩, ?_⟩
      rcases hw with rfl | ⟨t, rfl⟩
      · exact below_same
      · exact Lib.bytesWorld_below _ _ _
    ·
      obtain ⟨ev, h1, h2⟩ := ht.syn
      have e0 : atoiV s = 0 := by unfold atoiV; rw [hq]
      refine (Tryz.strconv_Atoi_syntax (txt s) (by rw [txt_size]; omega) hq ev w h1 h2).mono ?_
      rintro e w' ⟨N, rfl, _, _, hb⟩
      exact ⟨_, rfl, ⟨_, by rw [e0], Or.inr ⟨_, _, rfl⟩, fun n h => (by cases h)⟩, hb⟩
    ·
      obtain ⟨ev, h1, h2⟩ := ht.rng
      have e0 : atoiV s = Lib.atoiSat s := by unfold atoiV; rw [hq]
      refine (Tryz.strconv_Atoi_range (txt s) (by rw [txt_size]; omega) hq ev w h1 h2).mono ?_
      rintro e w' ⟨N, rfl, _, _, hb⟩
      exact ⟨_, rfl, ⟨_, by rw [e0]; rfl, Or.inr ⟨_, _, rfl⟩, fun n h => (by cases h)⟩, hb⟩
def atoiE : Con Tryz.prog := Con.rel atoiE_S
theorem nan_const : realL 9221120237041090561 = [110, 97, 110] := realL_nan (by decide +kernel)
theorem inf_const : realL 9218868437227405312 = [105, 110, 102] ∧ realL 18442240474082181120 = [45, 105, 110, 102] := by
  have a : dbl.read 9218868437227405312 = .infinity false := by kernel_rfl
  have b : dbl.read 18442240474082181120 = .infinity true := by kernel_rfl
  unfold realL
  rw [a, b]
  simp
theorem zero_const : realL 0 = [48] ∧ realL 9223372036854775808 = [45, 48] := by
  have b : dbl.read 9223372036854775808 = .number true 0 (-1074) := by kernel_rfl
  unfold realL
  rw [read_zeroU, b]
  simp
theorem iRealReadC_c (t : Str) (w : World) (hpre : TP (factF ⟨w, [], w, []⟩) ∧ TX (factF ⟨w, [], w, []⟩) ∧ t.length ≤ 1100000) : Calls Tryz.prog 139 #[.string (txt t)] w fun e w' => ∃ v, e = .returned v ∧ (fun v => ∃ r b, v = .tuple #[.float .f64 r, .bool b] ∧ RealTo t r) v ∧ RowKit.Below w.heap.size w w' := by
  refine plain_of_vcs ⟨[nanC, infC, copysignC, cutC, atoiE, withinC, ldexpC, iRealTextC], []⟩ hmx Tryz.func139 rfl (by kernel_rfl) (args := [.string (txt t)]) (by simp [Tryz.ntmps139]) w (fun v => ∃ r b, v = .tuple #[.float .f64 r, .bool b] ∧ RealTo t r) 400 ?_
  obtain ⟨hp, hx, hl⟩ := hpre
  by_cases c1 : t = [110, 97, 110]
  · subst c1
    simp (maxSteps := 4000000) -dsimp [-Y1, -Array.all_eq_true, -Y3, -Y4, and_assoc, Y5, Tryz.f139, nanC, infC, copysignC, cutC, atoiE, withinC, ldexpC, iRealTextC, txt_eta]
    exact real_self (by decide) nan_const
  by_cases c2 : t = [105, 110, 102]
  · subst c2
    simp (maxSteps := 4000000) -dsimp [-Y1, -Array.all_eq_true, -Y3, -Y4, and_assoc, Y5, Tryz.f139, nanC, infC, copysignC, cutC, atoiE, withinC, ldexpC, iRealTextC, txt_eta]
    exact real_self (by decide) inf_const.1
  by_cases c3 : t = [45, 105, 110, 102]
  · subst c3
    simp (maxSteps := 4000000) -dsimp [-Y1, -Array.all_eq_true, -Y3, -Y4, and_assoc, Y5, Tryz.f139, nanC, infC, copysignC, cutC, atoiE, withinC, ldexpC, iRealTextC, txt_eta]
    exact real_self (by decide) inf_const.2
  by_cases c4 : t = [48]
  · subst c4
    simp (maxSteps := 4000000) -dsimp [-Y1, -Array.all_eq_true, -Y3, -Y4, and_assoc, Y5, Tryz.f139, nanC, infC, copysignC, cutC, atoiE, withinC, ldexpC, iRealTextC, txt_eta]
    exact real_self (by decide) zero_const.1
  by_cases c5 : t = [45, 48]
  · subst c5
    simp (maxSteps := 4000000) -dsimp [-Y1, -Array.all_eq_true, -Y3, -Y4, and_assoc, Y5, Tryz.f139, nanC, infC, copysignC, cutC, atoiE, withinC, ldexpC, iRealTextC, txt_eta]
    exact real_self (by decide) zero_const.2
  obtain ⟨a, b, ok, hcut⟩ : ∃ a b ok, Lib.cut t [42, 50, 94] = (a, b, ok) := ⟨_, _, _, rfl⟩
  have hlen := cut_len' hcut
  have hIf : Tryz.prog.isIface 143 = true := by kernel_rfl
  have a1 : ∀ (d : Nat) (mem : List Blk) (K : C → Prop), ReadV d cut_S ⟨w, [], w, []⟩ [.v (.string (txt t)), .v (.string (txt [42, 50, 94]))] mem K = K (.v (.tuple #[.string (txt a), .string (txt b), .bool ok])) := fun d mem K => by
    have := cut_S.eq (d := d) (cx := ⟨w, [], w, []⟩) (args := [.v (.string (txt t)), .v (.string (txt [42, 50, 94]))]) (mem := mem) (K := K) (t, [42, 50, 94]) rfl ⟨hx.mono (sub_now _ _), Nat.le_trans hl (by decide)⟩
    rw [this]
    show K (.v (.tuple #[.string (txt (Lib.cut t [42, 50, 94]).1), .string (txt (Lib.cut t [42, 50, 94]).2.1), .bool (Lib.cut t [42, 50, 94]).2.2])) = _
    rw [hcut]
  have hparts := fun x hx ht => real_parts (x := x) hcut c1 c2 c3 c4 c5 hx ht
  have t0 := fun (r : Nat) (hr : r < 18446744073709551616) (d : Nat) (mem : List Blk) (K : C → Prop) => iRealTextC_rw (x := r) (d := d) (cx := ⟨w, [], w, []⟩) (mem := mem) (K := K) ⟨hp.mono (sub_now _ _), hr⟩
  simp (maxSteps := 4000000) -dsimp [-Y1, -Array.all_eq_true, -Y3, -Y4, and_assoc, Y5, Tryz.f139, nanC, infC, copysignC, cutC, atoiE, withinC, ldexpC, iRealTextC, txt_eta, c1, c2, c3, c4, c5, a1]
  refine ⟨a, rfl, ⟨hx.mono (sub_now _ _), by omega⟩, ?_⟩
  rintro v ⟨ev, rfl, hev1, hev2⟩
  simp (maxSteps := 4000000) -dsimp [-Y1, -Array.all_eq_true, -Y3, -Y4, and_assoc, Y5, Tryz.f139, nanC, infC, copysignC, cutC, atoiE, withinC, ldexpC, iRealTextC, a1]
  refine ⟨b, rfl, ⟨hx.mono (sub_now _ _), by omega⟩, ?_⟩
  rintro v ⟨fv, rfl, hfv1, hfv2⟩
  have hcan : ∀ x, x < 18446744073709551616 → t = realL x → ok = true ∧ ev = .nilIface ∧ fv = .nilIface ∧ (-9007199254740992 ≤ atoiV a ∧ atoiV a ≤ 9007199254740992) ∧ (-2000 ≤ atoiV b ∧ atoiV b ≤ 2000) ∧
      ∀ r, (∀ s m i, IsF (FloatKind.f64.nearest (atoiV a)) s m i → ∀ M I, Norm M I → ¬ M = 0 → valU M I = valU m (i + atoiV b) → r = dbl.word s (rungOf M I)) → r = x := by
    intro x hx ht
    obtain ⟨h1, s, n, e, M, I, rfl, rfl, h4, h5, h6, h7, h8, h9, h10, h11⟩ := hparts x hx ht
    have hn := sgnN_abs s n
    have ha := atoi_decZ (n := sgnN s n) (by omega)
    have hb := atoi_decZ (n := e) (by omega)
    have ha2 := atoiV_decZ (n := sgnN s n) (by omega)
    have hb2 := atoiV_decZ (n := e) (by omega)
    rw [ha2, hb2]
    refine ⟨h1, hev2 _ ha, hfv2 _ hb, ⟨by omega, by omega⟩, ⟨by omega, by omega⟩, fun r hr => ?_⟩
    obtain ⟨s', m, i, hF, hs, hv⟩ := float_int (n := sgnN s n) (by omega) (by omega)
    have hs2 : s' = s := by
      rw [hs]
      cases s
      · simp [sgnN]
      · simp [sgnN]; omega
    subst hs2
    rw [h4]
    refine hr _ m i hF M I h5 h6 ?_
    rw [h11]
    have := valU_shift (e := e) (hv (by omega)) (by have := hF.i0; omega) (by omega) (by have := hF.i0; omega) (by omega)
    rw [hn, Int.zero_add] at this
    exact this.symm
  by_cases hgood : ok = true ∧ ev = .nilIface ∧ fv = .nilIface ∧ (-9007199254740992 ≤ atoiV a ∧ atoiV a ≤ 9007199254740992) ∧ (-2000 ≤ atoiV b ∧ atoiV b ≤ 2000)
  · obtain ⟨rfl, rfl, rfl, g1, g2⟩ := hgood
    have hfl : FloatKind.f64.nearest (atoiV a) = 0 ∨ ∃ s m i, IsF (FloatKind.f64.nearest (atoiV a)) s m i := by
      by_cases hz : atoiV a = 0
      · left; rw [hz]; kernel_rfl
      · obtain ⟨s, m, i, hF, _⟩ := float_int hz (by omega)
        exact Or.inr ⟨s, m, i, hF⟩
    obtain ⟨g1, g1'⟩ := g1
    obtain ⟨g2, g2'⟩ := g2
    have n1 : ¬ atoiV a < -9007199254740992 := by omega
    have n2 : ¬ 9007199254740992 < atoiV a := by omega
    have n3 : ¬ atoiV b < -2000 := by omega
    have n4 : ¬ 2000 < atoiV b := by omega
    simp (maxSteps := 4000000) -dsimp [-Y1, -Array.all_eq_true, -Y3, -Y4, and_assoc, Y5, Tryz.f139, nanC, infC, copysignC, cutC, atoiE, withinC, ldexpC, iRealTextC, a1, g1, g1', g2, g2', n1, n2, n3, n4, hfl, hIf]
    rintro v r rfl hr hP
    have hcan2 := fun x hx ht => (hcan x hx ht).2.2.2.2.2 r hP
    rw [t0 r hr]
    by_cases hq : realL r = t
    · simp (maxSteps := 4000000) -dsimp [-Y1, -Array.all_eq_true, -Y3, -Y4, and_assoc, Y5, Tryz.f139, nanC, infC, copysignC, cutC, atoiE, withinC, ldexpC, iRealTextC, hq]
      exact real_self hr hq
    · simp (maxSteps := 4000000) -dsimp [-Y1, -Array.all_eq_true, -Y3, -Y4, and_assoc, Y5, Tryz.f139, nanC, infC, copysignC, cutC, atoiE, withinC, ldexpC, iRealTextC, hq]
      refine ⟨by decide, fun x hx ht => ?_⟩
      have := hcan2 x hx ht
      subst this
      exact absurd ht.symm hq
  · have hno : RealTo t 0 := ⟨by decide, fun x hx ht => absurd ⟨(hcan x hx ht).1, (hcan x hx ht).2.1, (hcan x hx ht).2.2.1, (hcan x hx ht).2.2.2.1, (hcan x hx ht).2.2.2.2.1⟩ hgood⟩
    cases ok
    · simp (maxSteps := 4000000) -dsimp [-Y1, -Array.all_eq_true, -Y3, -Y4, and_assoc, Y5, Tryz.f139, nanC, infC, copysignC, cutC, atoiE, withinC, ldexpC, iRealTextC, a1, hIf, hno]
    · rcases hev1 with rfl | ⟨tp, pv, rfl⟩
      · rcases hfv1 with rfl | ⟨tp, pv, rfl⟩
        · by_cases g1 : -9007199254740992 ≤ atoiV a
          · by_cases g2 : atoiV a ≤ 9007199254740992
            · by_cases g3 : -2000 ≤ atoiV b
              · have g4 : ¬ atoiV b ≤ 2000 := fun h => hgood ⟨rfl, rfl, rfl, ⟨g1, g2⟩, g3, h⟩
                have g4' : 2000 < atoiV b := by omega
                simp (maxSteps := 4000000) -dsimp [-Y1, -Array.all_eq_true, -Y3, -Y4, and_assoc, Y5, Tryz.f139, nanC, infC, copysignC, cutC, atoiE, withinC, ldexpC, iRealTextC, a1, hIf, hno, g1, g2, g3, g4, g4']
              · have g3' : atoiV b < -2000 := by omega
                simp (maxSteps := 4000000) -dsimp [-Y1, -Array.all_eq_true, -Y3, -Y4, and_assoc, Y5, Tryz.f139, nanC, infC, copysignC, cutC, atoiE, withinC, ldexpC, iRealTextC, a1, hIf, hno, g1, g2, g3, g3']
            · have g2' : 9007199254740992 < atoiV a := by omega
              simp (maxSteps := 4000000) -dsimp [-Y1, -Array.all_eq_true, -Y3, -Y4, and_assoc, Y5, Tryz.f139, nanC, infC, copysignC, cutC, atoiE, withinC, ldexpC, iRealTextC, a1, hIf, hno, g1, g2, g2']
          · have g1' : atoiV a < -9007199254740992 := by omega
            simp (maxSteps := 4000000) -dsimp [-Y1, -Array.all_eq_true, -Y3, -Y4, and_assoc, Y5, Tryz.f139, nanC, infC, copysignC, cutC, atoiE, withinC, ldexpC, iRealTextC, a1, hIf, hno, g1, g1']
        · simp (maxSteps := 4000000) -dsimp [-Y1, -Array.all_eq_true, -Y3, -Y4, and_assoc, Y5, Tryz.f139, nanC, infC, copysignC, cutC, atoiE, withinC, ldexpC, iRealTextC, a1, hIf, hno]
      · simp (maxSteps := 4000000) -dsimp [-Y1, -Array.all_eq_true, -Y3, -Y4, and_assoc, Y5, Tryz.f139, nanC, infC, copysignC, cutC, atoiE, withinC, ldexpC, iRealTextC, a1, hIf, hno]
def iRealReadC_S : Rels Tryz.prog 139 where
  ι := ((Str))
  A := fun (t : ((Str))) => [.string (txt t)]
  pre := fun (t : ((Str))) (F : Facts) => TP F ∧ TX F ∧ t.length ≤ 1100000
  post := fun (t : ((Str))) => fun v => ∃ r b, v = .tuple #[.float .f64 r, .bool b] ∧ RealTo t r
  mono := by
    intro i F G hs h
    first | exact h | exact h.mono hs | exact ⟨h.1.mono hs, h.2⟩ | exact ⟨h.1.mono hs, h.2.1.mono hs, h.2.2⟩ | exact ⟨h.1.mono hs, h.2.1.mono hs⟩ | exact ⟨h.1.mono hs, h.2.1.mono hs, h.2.2.1.mono hs, h.2.2.2⟩
  enter := Tryz.call139
  h := fun t w hp => iRealReadC_c t w (by rw [factF_init]; exact hp)
def iRealReadC : Con Tryz.prog := Con.rel iRealReadC_S
end Go.Proofs.YtclbanhoiaieaaaGreatDoor
