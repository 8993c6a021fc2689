/-
  Contract: a word of a memory's text, put into the memory by the reference.
-/
import Derived.Test.YtclbanhoiaieaaaGreatDoorVovc
set_option linter.unusedVariables false
set_option linter.unusedSimpArgs false
set_option maxRecDepth 100000
set_option maxHeartbeats 4000000
namespace Go.Proofs.YtclbanhoiaieaaaGreatDoor
open Go Go.Sx
open List renaming all_eq_true → Y1, zipIdx → Y5
open Bool renaming exists_bool → Y3, forall_bool → Y4
attribute [local simp] Sx.vcsE1 Sx.vcsE2 Sx.vcsE3 Sx.vcsE4 Sx.vcsE5 Sx.vcsE6 Sx.vcsE7 Sx.vcsE8 Sx.vcsE9 Sx.vcsE10 Sx.vcsE11 Sx.vcsE12 Sx.vcsE13 Sx.vcsE14 Sx.vcsE15 Sx.vcsE16 Sx.vcsE17 Sx.vcsE18 Sx.vcsE19 Sx.get Sx.look Sx.put Sx.pureFn Sx.findOrd Sx.unF Sx.dstOk Sx.isFloatT Sx.endVC Sx.resFn Sx.packC Sx.newFn Sx.storeFn Sx.buildFn Sx.known Sx.aggT Sx.cellsC Sx.findCon Sx.allV Sx.partsV Sx.partsC Sx.fillL Sx.exitTo Sx.fAr Sx.eqFn Sx.eqFieldsFn Sx.eqElemsFn Sx.partFn Sx.sliceFn Sx.boundFn Sx.AppV Sx.CopyV Sx.MakeSliceV Sx.NewsV Sx.GrowV Sx.TextV Sx.bytesL Sx.notInt Sx.typeAt Sx.argAt Sx.den Go.undef Go.Value.cells Go.Value.oneCell' Sx.Con.pure Sx.Con.some Sx.Con.read Sx.Con.make Sx.Con.ext Sx.Con.rel Sx.Con.extS Sx.Con.draw Sx.Con.step Sx.C.one Sx.Draws.steps

theorem sWordC_c (m : M) (t : Str) (hpre : MOk m ∧ t.length ≤ 1100000) (w : World) : Calls Tryz.prog 49 #[.agg (cells m), .string (txt t)] w fun e w' => ∃ v, e = .returned v ∧ (fun v => ∃ m', v = .agg (cells m') ∧ WordTo m t m') v ∧ RowKit.Below w.heap.size w w' := by
  refine plain_of_vcs ⟨[sFindEq, sNumC, sDevReadC, sValueC, l5TurnedC, sMemPutC], []⟩ hmx Tryz.func49 rfl (by kernel_rfl) (args := [.agg (cells m), .string (txt t)]) (by simp [Tryz.ntmps49]) w (fun v => ∃ m', v = .agg (cells m') ∧ WordTo m t m') 400 ?_
  obtain ⟨hm, hl⟩ := hpre
  have hl2 : t.length ≤ 4000000 := by omega
  have hl3 : t.length ≤ 2000000 := by omega
  have hbd := idxL_bd 61 t
  by_cases c1 : t = [114, 97, 110]
  · subst c1
    simp (maxSteps := 4000000) -dsimp [-Y1, -Array.all_eq_true, -Y3, -Y4, and_assoc, Y5, Tryz.f49, sFindEq, sNumC, sDevReadC, sValueC, l5TurnedC, sMemPutC, txt_eta]
    exact word_ran hm
  by_cases c2 : t = [102, 97, 117, 108, 116]
  · subst c2
    simp (maxSteps := 4000000) -dsimp [-Y1, -Array.all_eq_true, -Y3, -Y4, and_assoc, Y5, Tryz.f49, sFindEq, sNumC, sDevReadC, sValueC, l5TurnedC, sMemPutC, txt_eta]
    exact word_fault hm
  by_cases hpos : 0 < idxL 61 t
  · obtain ⟨k, hk⟩ : ∃ k : Nat, idxL 61 t = k := ⟨(idxL 61 t).toNat, by omega⟩
    rw [hk] at hbd hpos
    have hcut := cutU_hit hk
    have hk0 : 0 < k := by omega
    have hk00 : ¬ k = 0 := by omega
    have hkl : k < t.length := by omega
    have hlk : (t.take k).length = k := by rw [List.length_take]; omega
    have hpl : (k : Int) ≤ t.length := by omega
    have hpl1 : (k : Int) + 1 ≤ t.length := by omega
    have hp0 : (0 : Int) ≤ (k : Int) + 1 := by omega
    have w1 : IntKind.i64.wrap ((k : Int) + 1) = k + 1 := wrap_i64 (by omega) (by omega)
    have t1 : ((k : Int) + 1).toNat = k + 1 := by omega
    by_cases htm : k = 4 ∧ t.take 4 = [116, 105, 109, 101]
    · obtain ⟨rfl, htm⟩ := htm
      have hc1 : (cutAt 61 t).1 = [116, 105, 109, 101] := by rw [hcut]; exact htm
      have hc2 : (cutAt 61 t).2 = (t.drop 5, true) := by rw [hcut]
      have hp4 : (4 : Int) ≤ t.length := by omega
      have hp5 : (5 : Int) ≤ t.length := by omega
      have hl5 : t.length ≤ 2000005 := by omega
      obtain ⟨n, ok, hnum⟩ : ∃ n b, numS (t.drop 5) = (n, b) := ⟨_, _, rfl⟩
      have hbad : ¬ (ok = true ∧ 0 ≤ n ∧ n ≤ 4294967295) → WordTo m t m := fun h => word_time_none hm hc1 fun x h0 h1 hx => by
        rw [hc2] at hx
        simp only [Prod.mk.injEq, and_true] at hx
        rw [hx, numS_dec (by omega)] at hnum
        simp only [Prod.mk.injEq] at hnum
        obtain ⟨rfl, rfl⟩ := hnum
        exact h ⟨rfl, h0, by omega⟩
      cases ok
      · have hb := hbad (by simp)
        simp (maxSteps := 4000000) -dsimp [-Y1, -Array.all_eq_true, -Y3, -Y4, and_assoc, Y5, Tryz.f49, sFindEq, sNumC, sDevReadC, sValueC, l5TurnedC, sMemPutC, hl2, hl3, hl5, hk, c1, c2, htm, hp4, hp5, hnum, hb]
      by_cases n0 : 0 ≤ n
      · by_cases n1 : n ≤ 4294967295
        · have hw := wrap_u32 n0 (by omega : n < 4294967296)
          have n2 : ¬ n < 0 := by omega
          have n3 : ¬ 4294967295 < n := by omega
          have hy : WordTo m t { m with Time := n } := word_time hm hc1 ⟨n0, by omega⟩ fun x h0 h1 hx => by
            rw [hc2] at hx
            have hx' : t.drop 5 = decZ x := hx
            rw [hx', numS_dec (by omega)] at hnum
            simp only [Prod.mk.injEq] at hnum
            exact hnum.1.symm
          simp (maxSteps := 4000000) -dsimp [-Y1, -Array.all_eq_true, -Y3, -Y4, and_assoc, Y5, Tryz.f49, sFindEq, sNumC, sDevReadC, sValueC, l5TurnedC, sMemPutC, hl2, hl3, hl5, hk, c1, c2, htm, hp4, hp5, hnum, n0, n1, n2, n3, hw, hy]
        · have hb := hbad (by omega)
          simp (maxSteps := 4000000) -dsimp [-Y1, -Array.all_eq_true, -Y3, -Y4, and_assoc, Y5, Tryz.f49, sFindEq, sNumC, sDevReadC, sValueC, l5TurnedC, sMemPutC, hl2, hl3, hl5, hk, c1, c2, htm, hp4, hp5, hnum, n0, n1, hb]
      · have hb := hbad (by omega)
        simp (maxSteps := 4000000) -dsimp [-Y1, -Array.all_eq_true, -Y3, -Y4, and_assoc, Y5, Tryz.f49, sFindEq, sNumC, sDevReadC, sValueC, l5TurnedC, sMemPutC, hl2, hl3, hl5, hk, c1, c2, htm, hp4, hp5, hnum, n0, hb]
    have hnt : (cutAt 61 t).1 ≠ [116, 105, 109, 101] := fun e => by
      rw [hcut] at e
      have e' : t.take k = [116, 105, 109, 101] := e
      have : k = 4 := by rw [← hlk, e']; rfl
      subst this
      exact htm ⟨rfl, e'⟩
    have hlk2 : min k t.length ≤ 2000000 := by omega
    have htm1 : (k : Int) = 4 → ¬ t.take 4 = [116, 105, 109, 101] := fun e h => htm ⟨by omega, h⟩
    have htm2 : k = 4 → ¬ t.take 4 = [116, 105, 109, 101] := fun e h => htm ⟨by omega, h⟩
    have hlv : t.length ≤ 1100000 + (k + 1) := by omega
    cases hd : devRd (t.take k) with
    | none =>
      have hno := word_dull hm (by rw [hcut]; exact hd) c1 c2 hnt
      by_cases k4 : k = 4
      · subst k4
        have h4 := htm2 rfl
        have hp4 : (4 : Int) ≤ t.length := by omega
        simp (maxSteps := 4000000) -dsimp [-Y1, -Array.all_eq_true, -Y3, -Y4, and_assoc, Y5, Tryz.f49, sFindEq, sNumC, sDevReadC, sValueC, l5TurnedC, sMemPutC, hl2, hl3, hk, c1, c2, h4, hp4, hlk2, hk00, hd, devTup, hno]
      · have k4' : ¬ (k : Int) = 4 := by omega
        simp (maxSteps := 4000000) -dsimp [-Y1, -Array.all_eq_true, -Y3, -Y4, and_assoc, Y5, Tryz.f49, sFindEq, sNumC, sDevReadC, sValueC, l5TurnedC, sMemPutC, hl2, hl3, hk, c1, c2, k4, k4', hk0, hpl, hlk2, hk00, hd, devTup, hno]
    | some d =>
      obtain ⟨dk, dn, dp⟩ := d
      have hok := dev_ok hd
      by_cases k4 : k = 4
      · subst k4
        have h4 := htm2 rfl
        have hp4 : (4 : Int) ≤ t.length := by omega
        have hp5 : (5 : Int) ≤ t.length := by omega
        have hl5 : t.length ≤ 1100005 := by omega
        have w5 : IntKind.i64.wrap 5 = 5 := wrap_i64 (by decide) (by decide)
        simp (maxSteps := 4000000) -dsimp [-Y1, -Array.all_eq_true, -Y3, -Y4, and_assoc, Y5, Tryz.f49, sFindEq, sNumC, sDevReadC, sValueC, l5TurnedC, sMemPutC, hl2, hl3, hk, c1, c2, h4, hp4, hp5, hl5, hlk2, hk00, hd, devTup, w1, w5, t1, hpl1, hlv, hm, hok]
        rintro v m' rfl hv
        have hone : (cells m').all (C.one ∘ C.v) 0 136 = true := by kernel_rfl
        have hy : WordTo m t m' := hv t (by rw [hcut]; exact hd) (by rw [hcut])
        simp (maxSteps := 4000000) -dsimp [-Y1, -Array.all_eq_true, -Y3, -Y4, and_assoc, Y5, Tryz.f49, sFindEq, sNumC, sDevReadC, sValueC, l5TurnedC, sMemPutC, hone, hy]
        try exact ⟨hone, hy⟩
      · have k4' : ¬ (k : Int) = 4 := by omega
        simp (maxSteps := 4000000) -dsimp [-Y1, -Array.all_eq_true, -Y3, -Y4, and_assoc, Y5, Tryz.f49, sFindEq, sNumC, sDevReadC, sValueC, l5TurnedC, sMemPutC, hl2, hl3, hk, c1, c2, k4, k4', hk0, hpl, hp0, hlk2, hk00, hd, devTup, w1, t1, hpl1, hlv, hm, hok]
        rintro v m' rfl hv
        have hone : (cells m').all (C.one ∘ C.v) 0 136 = true := by kernel_rfl
        have hy : WordTo m t m' := hv t (by rw [hcut]; exact hd) (by rw [hcut])
        simp (maxSteps := 4000000) -dsimp [-Y1, -Array.all_eq_true, -Y3, -Y4, and_assoc, Y5, Tryz.f49, sFindEq, sNumC, sDevReadC, sValueC, l5TurnedC, sMemPutC, hone, hy]
        try exact ⟨hone, hy⟩
  have hpos' : ¬ 0 < idxL 61 t := hpos
  have hpos2 : idxL 61 t ≤ 0 := by omega
  have hn4 : ¬ idxL 61 t = 4 := by omega
  by_cases h0 : idxL 61 t = 0
  · have hcut := cutU_hit (k := 0) (by simpa using h0)
    have h61 : (61 : UInt8) ∈ t := Classical.byContradiction fun e => by have := idxL_miss e; omega
    have hd : devRd t = none := devRd_not (c := 61) (by decide) h61
    have hno : WordTo m t m := word_dull hm (by rw [hcut]; rfl) c1 c2 (by rw [hcut]; simp)
    simp (maxSteps := 4000000) -dsimp [-Y1, -Array.all_eq_true, -Y3, -Y4, and_assoc, Y5, Tryz.f49, sFindEq, sNumC, sDevReadC, sValueC, l5TurnedC, sMemPutC, hl2, hl3, c1, c2, h0, hd, devTup, hno]
  have hcut := cutU_miss (c := 61) (t := t) (by omega)
  have hc1 : (cutAt 61 t).1 = t := by rw [hcut]
  by_cases htm : t = [116, 105, 109, 101]
  · have hno : WordTo m t m := word_time_none hm (by rw [hc1, htm]) fun x h0 h1 hx => by rw [hcut] at hx; exact absurd (congrArg Prod.snd hx) (by simp)
    have hd : devRd t = none := by rw [htm]; exact devRd_time
    simp (maxSteps := 4000000) -dsimp [-Y1, -Array.all_eq_true, -Y3, -Y4, and_assoc, Y5, Tryz.f49, sFindEq, sNumC, sDevReadC, sValueC, l5TurnedC, sMemPutC, hl2, hl3, c1, c2, hpos', hpos2, hn4, hd, devTup, hno]
  cases hd : devRd t with
  | none =>
    have hno : WordTo m t m := word_dull hm (by rw [hc1]; exact hd) c1 c2 (by rw [hc1]; exact htm)
    simp (maxSteps := 4000000) -dsimp [-Y1, -Array.all_eq_true, -Y3, -Y4, and_assoc, Y5, Tryz.f49, sFindEq, sNumC, sDevReadC, sValueC, l5TurnedC, sMemPutC, hl2, hl3, c1, c2, hpos', hpos2, hn4, hd, devTup, hno]
  | some d =>
    obtain ⟨dk, dn, dp⟩ := d
    have hok := dev_ok hd
    have hdd := (devOk_iff _ _ _).1 hok
    have hd2 : devRd (cutAt 61 t).1 = some ⟨dk, dn, dp⟩ := by rw [hc1]; exact hd
    by_cases k1 : dk = 1
    · subst k1
      have s1 : devSize 1 = 32 := rfl
      have hx := hm.X
      have hdn : 0 ≤ dn ∧ dn < 64 := by omega
      have hX0 : 0 ≤ m.X := hx.1
      have hX1 : m.X < 18446744073709551616 := by omega
      have hw1 := wrap_u64 hx.1 hX1
      have hb := putBit_bd (b := 32) (j := dn.toNat) (c := true) hx.1 hx.2 (by omega)
      have hw2 := wrap_u32 hb.1 hb.2
      have hy := word_x hm hd2
      simp (maxSteps := 4000000) -dsimp [-Y1, -Array.all_eq_true, -Y3, -Y4, and_assoc, Y5, Tryz.f49, sFindEq, sNumC, sDevReadC, sValueC, l5TurnedC, sMemPutC, hl2, hl3, c1, c2, hpos', hpos2, hn4, hd, devTup, hdn, hX0, hX1, hw1, hw2, hy]
    · have hy : WordTo m t (memPut m dk dn true) := by
        by_cases k2 : 2 ≤ dk ∧ dk ≤ 5
        · exact word_bits hm hd2 k2
        · have e : memPut m dk dn true = m := by unfold memPut; rw [if_neg (by omega), if_neg (by omega), if_neg (by omega), if_neg (by omega)]
          rw [e]
          by_cases k7 : 7 ≤ dk ∧ dk ≤ 10
          · exact word_bare hm hd2 k7 (by rw [hcut])
          · exact word_other hm hd2 (by omega)
      simp (maxSteps := 4000000) -dsimp [-Y1, -Array.all_eq_true, -Y3, -Y4, and_assoc, Y5, Tryz.f49, sFindEq, sNumC, sDevReadC, sValueC, l5TurnedC, sMemPutC, hl2, hl3, c1, c2, hpos', hpos2, hn4, hd, devTup, k1, hm, hy]
def sWordC : Con Tryz.prog := Con.some 49 Tryz.call49 (fun (i : ((M) × (Str))) => match i with | (m, t) => [.agg (cells m), .string (txt t)]) (fun (i : ((M) × (Str))) => match i with | (m, t) => MOk m ∧ t.length ≤ 1100000) (fun (i : ((M) × (Str))) => match i with | (m, t) => fun v => ∃ m', v = .agg (cells m') ∧ WordTo m t m') fun i w hp => sWordC_c i.1 i.2 hp w
end Go.Proofs.YtclbanhoiaieaaaGreatDoor
