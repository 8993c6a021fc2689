/-
  Contract: a memory as text, by the reference; the law FnExactMemText's walk. Its body is printed by gen_ts.py.
-/
import Derived.Test.YtclbanhoiaieaaaGreatDoorTsvc
set_option linter.unusedVariables false
set_option linter.unusedSimpArgs false
set_option maxRecDepth 100000
set_option maxHeartbeats 4000000
namespace Go.Proofs.YtclbanhoiaieaaaGreatDoor
open Go Go.Sx
open List renaming all_eq_true → Y1, zipIdx → Y5
open Bool renaming exists_bool → Y3, forall_bool → Y4
attribute [local simp] Sx.vcsE1 Sx.vcsE2 Sx.vcsE3 Sx.vcsE4 Sx.vcsE5 Sx.vcsE6 Sx.vcsE7 Sx.vcsE8 Sx.vcsE9 Sx.vcsE10 Sx.vcsE11 Sx.vcsE12 Sx.vcsE13 Sx.vcsE14 Sx.vcsE15 Sx.vcsE16 Sx.vcsE17 Sx.vcsE18 Sx.vcsE19 Sx.get Sx.look Sx.put Sx.pureFn Sx.findOrd Sx.unF Sx.dstOk Sx.isFloatT Sx.endVC Sx.resFn Sx.packC Sx.newFn Sx.storeFn Sx.buildFn Sx.known Sx.aggT Sx.cellsC Sx.findCon Sx.allV Sx.partsV Sx.partsC Sx.fillL Sx.exitTo Sx.fAr Sx.eqFn Sx.eqFieldsFn Sx.eqElemsFn Sx.partFn Sx.sliceFn Sx.boundFn Sx.AppV Sx.CopyV Sx.MakeSliceV Sx.NewsV Sx.GrowV Sx.TextV Sx.bytesL Sx.notInt Sx.typeAt Sx.argAt Sx.den Go.undef Go.Value.cells Go.Value.oneCell' Sx.Con.pure Sx.Con.some Sx.Con.read Sx.Con.make Sx.Con.ext Sx.Con.rel Sx.Con.extS Sx.Con.draw Sx.Con.step Sx.C.one Sx.Draws.steps

theorem bitsU_next (m : M) (k : Nat) : wdS (bitsU m (k + 1)) = wdS (bitsU m k) ++ wdS (preW (fun (n : Nat) => memBit m ((k : Int) + 1) n) (.bit ((k : Int) + 1)) (devSize ((k : Int) + 1)).toNat) := by
  rw [bitsU, wdS_app]; rfl
theorem bits_len (m : M) (k : Int) (n : Nat) (hn : n ≤ 64) : (wdS (preW (fun (n : Nat) => memBit m k n) (.bit k) n)).length ≤ 6400 := by
  have h1 := wdS_len (W := preW (fun (n : Nat) => memBit m k n) (.bit k) n) (by
    intro z hz
    unfold preW at hz
    obtain ⟨i, hi, rfl⟩ := List.mem_map.1 hz
    have hi2 := (List.mem_filter.1 hi).1
    simp only [List.mem_range] at hi2
    have := decL_len i 1 (by omega)
    simp only [MW.text, List.length_cons]
    omega)
  have h2 := preW_len (fun (n : Nat) => memBit m k n) (.bit k) n
  omega
theorem sMemTextC_c (m : M) (hpre : MOk m) (w : World) : Calls Tryz.prog 50 #[.agg (cells m)] w fun e w' => e = .returned (.string (txt (memL m))) ∧ RowKit.Below w.heap.size w w' := by
  refine (plain_of_vcs ⟨[l5BitsC, sDecC, l5MarkC, l5DevC, sRealTextC], []⟩ hmx Tryz.func50 rfl (by kernel_rfl) (args := [.agg (cells m)]) (by simp [Tryz.ntmps50]) w (· = .string (txt (memL m))) 900 ?_).mono fun e w' ⟨v, h1, h2, h3⟩ => ⟨h2 ▸ h1, h3⟩
  have hm := hpre
  simp (maxSteps := 4000000) -dsimp [-Y1, -Array.all_eq_true, -Y3, -Y4, and_assoc, Y5, Tryz.f50, l5BitsC, sDecC, l5MarkC, l5DevC, sRealTextC, txt_eta]
  intro b0
  refine loop_inv (σ := ⟨[l5BitsC, sDecC, l5MarkC, l5DevC, sRealTextC], []⟩) hmx (by kernel_rfl) (fun q cx' tm mem => cx' = ⟨w, [], w, []⟩ ∧ ∃ (k : Nat), k ≤ 5 ∧ q = 5 - k ∧ (wdS (bitsU m k)).length ≤ 6400 * k ∧ mem = [⟨b0, cellC m, 36⟩] ∧ Sx.look tm 4 = .v (.int .i64 ((k : Int) + 1)) ∧ Sx.look tm 3 = .v (.string (txt (wdS (bitsU m k)))) ∧ Sx.look tm 1 = .p 0 b0 0)
    5 ⟨rfl, 0, by omega, rfl, by simp [bitsU, wdS], rfl, by simp [Sx.look], by simp [Sx.look, bitsU, wdS, txt_eta], by simp [Sx.look]⟩ ?_
  rintro q cx tm mem ⟨rfl, k, hk, rfl, hb, rfl, j4, j3, j1⟩
  refine ⟨900, ?_⟩
  by_cases hlt : k < 5
  · have h1 : (k : Int) + 1 ≤ 5 := by omega
    have h2 : 1 ≤ (k : Int) + 1 := by omega
    have hw1 : IntKind.i64.wrap ((k : Int) + 1 + 1) = (k : Int) + 1 + 1 := wrap_i64 (by omega) (by omega)
    have e := bitsU_next m k
    have hl := bits_len m ((k : Int) + 1) (devSize ((k : Int) + 1)).toNat (by have := devSize_le ((k : Int) + 1); omega)
    simp (maxSteps := 4000000) -dsimp [-Y1, -Array.all_eq_true, -Y3, -Y4, and_assoc, Y5, Tryz.f50, l5BitsC, sDecC, l5MarkC, l5DevC, sRealTextC, j4, j3, j1, h1, h2, hm, hw1, txt_eta]
    exact ⟨by omega, 1, 5 - (k + 1), by omega, k + 1, by omega, rfl, by rw [e, List.length_append]; omega, rfl, by omega, by rw [e]⟩
  · have hk5 : k = 5 := by omega
    subst hk5
    have hA0 : bitsU m 5 = A0 m := rfl
    rw [hA0] at hb j3
    have h1 : ¬ ((5 : Nat) : Int) + 1 ≤ 5 := by omega
    simp (maxSteps := 4000000) -dsimp [-Y1, -Array.all_eq_true, -Y3, -Y4, and_assoc, Y5, Tryz.f50, l5BitsC, sDecC, l5MarkC, l5DevC, sRealTextC, j4, j3, j1, h1]
    obtain ⟨l0, l1, l2, l3, l4⟩ := A_len m
    have hB : (wdS (A0 m)).length ≤ 100 * 320 := by omega
    -- timers
    refine loop_inv (σ := ⟨[l5BitsC, sDecC, l5MarkC, l5DevC, sRealTextC], []⟩) hmx (by kernel_rfl) (fun q cx' tm mem => cx' = ⟨w, [], w, []⟩ ∧ ∃ (i : Nat), i ≤ 16 ∧ q = 16 - i ∧ (wdS (accW (A0 m) (tP m) (tG m) i)).length ≤ 100 * (320 + i) ∧ mem = [⟨b0, cellC m, 36⟩] ∧
        Sx.look tm 5 = .v (.int .i64 i) ∧ Sx.look tm 3 = .v (.string (txt (wdS (accW (A0 m) (tP m) (tG m) i)))) ∧ Sx.look tm 1 = .p 0 b0 0)
      16 ⟨rfl, 0, by omega, rfl, by rw [accW_zero]; exact hB, rfl, by simp [Sx.look], by simp [Sx.look, j3, accW_zero], by simp [Sx.look, j1]⟩ ?_
    clear hB j3 j1
    rintro q cx tm mem ⟨rfl, i, hi, rfl, hB, rfl, ji, j3, j1⟩
    refine ⟨900, ?_⟩
    by_cases hnl : i < 16
    · have hnl' : (i : Int) < 16 := by omega
      have hT := hm.T i hnl
      have gT := get_TT m i hnl
      have ob : 5 + i * 2 + 2 ≤ 136 := by omega
      have ei : decZ (i : Int) = decL i := by unfold decZ; rw [if_neg (by omega)]; rfl
      have n1 := decL_len i 1 (by omega)
      have i100 : i ≤ 100 := by omega
      cases hp : tP m i
      · have e := accW_no (B := A0 m) (g := tG m) hp
        have q1 : (m.T i).1 = false ∧ (m.T i).2 = 0 := by
          unfold tP at hp
          simp only [Bool.or_eq_false_iff, decide_eq_false_iff_not] at hp
          exact ⟨hp.1, by omega⟩
        simp (maxSteps := 4000000) -dsimp [-Y1, -Array.all_eq_true, -Y3, -Y4, and_assoc, Y5, Tryz.f50, l5BitsC, sDecC, l5MarkC, l5DevC, sRealTextC, ji, j3, j1, hnl', gT, ob, q1, i_succ (i := i) (by omega)]
        intro b
        try simp
        exact ⟨1, 16 - (i + 1), by omega, i + 1, by omega, rfl, by rw [e]; omega, rfl, by omega, by rw [e]⟩
      · have e := accW_yes (B := A0 m) (g := tG m) hp
        have q0 : (m.T i).1 = true ∨ 0 < (m.T i).2 := by
          unfold tP at hp
          simp only [Bool.or_eq_true, decide_eq_true_eq] at hp
          exact hp
        have n2 := decZ_short (n := (m.T i).2) (k := 4) (by omega)
        have n3 : (if (m.T i).1 = true then [33] else ([] : Str)).length ≤ 1 := by split <;> simp
        have r1 : -9223372036854775807 ≤ (m.T i).2 := by omega
        have r2 : (m.T i).2 ≤ 9223372036854775807 := by omega
        have w1 : IntKind.i64.wrap (m.T i).2 = (m.T i).2 := wrap_i64 (by omega) (by omega)
        cases hd : (m.T i).1
        · have hc : 0 < (m.T i).2 := q0.resolve_left (by rw [hd]; decide)
          simp (maxSteps := 4000000) -dsimp [-Y1, -Array.all_eq_true, -Y3, -Y4, and_assoc, Y5, Tryz.f50, l5BitsC, sDecC, l5MarkC, l5DevC, sRealTextC, ji, j3, j1, hnl', i100, gT, ob, r1, r2, w1, hd, hc, txt_eta, i_succ (i := i) (by omega)]
          intro b
          (repeat with_reducible refine And.intro (by omega) ?_)
          refine ⟨i, rfl, i100, ?_⟩
          (repeat with_reducible refine And.intro (by omega) ?_)
          have eT : wdS (accW (A0 m) (tP m) (tG m) (i + 1)) = wdS (accW (A0 m) (tP m) (tG m) i) ++ ((tG m i).text ++ [32]) := by rw [e, wdS_snoc]
          refine ⟨1, 16 - (i + 1), by omega, i + 1, by omega, rfl, ?_, rfl, by omega, ?_⟩
          · rw [eT]; simp [tG, MW.text, hd, hc]; omega
          · rw [eT]; simp [tG, MW.text, hd, hc]; rfl
        · skip
          simp (maxSteps := 4000000) -dsimp [-Y1, -Array.all_eq_true, -Y3, -Y4, and_assoc, Y5, Tryz.f50, l5BitsC, sDecC, l5MarkC, l5DevC, sRealTextC, ji, j3, j1, hnl', i100, gT, ob, r1, r2, w1, hd, txt_eta, i_succ (i := i) (by omega)]
          intro b
          (repeat with_reducible refine And.intro (by omega) ?_)
          refine ⟨i, rfl, i100, ?_⟩
          (repeat with_reducible refine And.intro (by omega) ?_)
          have eT : wdS (accW (A0 m) (tP m) (tG m) (i + 1)) = wdS (accW (A0 m) (tP m) (tG m) i) ++ ((tG m i).text ++ [32]) := by rw [e, wdS_snoc]
          refine ⟨1, 16 - (i + 1), by omega, i + 1, by omega, rfl, ?_, rfl, by omega, ?_⟩
          · rw [eT]; simp [tG, MW.text, hd]; omega
          · rw [eT]; simp [tG, MW.text, hd]; rfl
    · obtain rfl : i = 16 := by omega
      have eA : accW (A0 m) (tP m) (tG m) 16 = A1 m := rfl
      rw [eA] at hB j3
      simp (maxSteps := 4000000) -dsimp [-Y1, -Array.all_eq_true, -Y3, -Y4, and_assoc, Y5, Tryz.f50, l5BitsC, sDecC, l5MarkC, l5DevC, sRealTextC, ji, j3, j1]
      -- counters
      refine loop_inv (σ := ⟨[l5BitsC, sDecC, l5MarkC, l5DevC, sRealTextC], []⟩) hmx (by kernel_rfl) (fun q cx' tm mem => cx' = ⟨w, [], w, []⟩ ∧ ∃ (i : Nat), i ≤ 16 ∧ q = 16 - i ∧ (wdS (accW (A1 m) (cP m) (cG m) i)).length ≤ 100 * (336 + i) ∧ mem = [⟨b0, cellC m, 36⟩] ∧
          Sx.look tm 7 = .v (.int .i64 i) ∧ Sx.look tm 3 = .v (.string (txt (wdS (accW (A1 m) (cP m) (cG m) i)))) ∧ Sx.look tm 1 = .p 0 b0 0)
        16 ⟨rfl, 0, by omega, rfl, by rw [accW_zero]; exact hB, rfl, by simp [Sx.look], by simp [Sx.look, j3, accW_zero], by simp [Sx.look, j1]⟩ ?_
      clear hB j3 j1
      rintro q cx tm mem ⟨rfl, i, hi, rfl, hB, rfl, ji, j3, j1⟩
      refine ⟨900, ?_⟩
      by_cases hnl : i < 16
      · have hnl' : (i : Int) < 16 := by omega
        have hC := hm.C i hnl
        have gC := get_CC m i hnl
        have ob : 37 + i * 3 + 3 ≤ 136 := by omega
        have ei : decZ (i : Int) = decL i := by unfold decZ; rw [if_neg (by omega)]; rfl
        have n1 := decL_len i 1 (by omega)
        have i100 : i ≤ 100 := by omega
        cases hp : cP m i
        · have e := accW_no (B := A1 m) (g := cG m) hp
          have q1 : (m.C i).1 = false ∧ (m.C i).2.1 = false ∧ (m.C i).2.2 = 0 := by
            unfold cP at hp
            simp only [Bool.or_eq_false_iff, decide_eq_false_iff_not] at hp
            exact ⟨hp.1, hp.2.1, by omega⟩
          simp (maxSteps := 4000000) -dsimp [-Y1, -Array.all_eq_true, -Y3, -Y4, and_assoc, Y5, Tryz.f50, l5BitsC, sDecC, l5MarkC, l5DevC, sRealTextC, ji, j3, j1, hnl', gC, ob, q1, i_succ (i := i) (by omega)]
          intro b
          try simp
          exact ⟨1, 16 - (i + 1), by omega, i + 1, by omega, rfl, by rw [e]; omega, rfl, by omega, by rw [e]⟩
        · have e := accW_yes (B := A1 m) (g := cG m) hp
          have q0 : (m.C i).1 = true ∨ (m.C i).2.1 = true ∨ 0 < (m.C i).2.2 := by
            unfold cP at hp
            simp only [Bool.or_eq_true, decide_eq_true_eq] at hp
            exact hp
          have n2 := decZ_short (n := (m.C i).2.2) (k := 4) (by omega)
          have n3 : (if (m.C i).1 = true then [33] else ([] : Str)).length ≤ 1 := by split <;> simp
          have n4 : (if (m.C i).2.1 = true then [43] else ([] : Str)).length ≤ 1 := by split <;> simp
          have r1 : -9223372036854775807 ≤ (m.C i).2.2 := by omega
          have r2 : (m.C i).2.2 ≤ 9223372036854775807 := by omega
          have w1 : IntKind.i64.wrap (m.C i).2.2 = (m.C i).2.2 := wrap_i64 (by omega) (by omega)
          cases hd : (m.C i).1
          · cases hl : (m.C i).2.1
            · have hc : 0 < (m.C i).2.2 := (q0.resolve_left (by rw [hd]; decide)).resolve_left (by rw [hl]; decide)
              simp (maxSteps := 4000000) -dsimp [-Y1, -Array.all_eq_true, -Y3, -Y4, and_assoc, Y5, Tryz.f50, l5BitsC, sDecC, l5MarkC, l5DevC, sRealTextC, ji, j3, j1, hnl', i100, gC, ob, r1, r2, w1, hd, hl, hc, txt_eta, i_succ (i := i) (by omega)]
              intro b
              (repeat with_reducible refine And.intro (by omega) ?_)
              refine ⟨i, rfl, i100, ?_⟩
              (repeat with_reducible refine And.intro (by omega) ?_)
              have eT : wdS (accW (A1 m) (cP m) (cG m) (i + 1)) = wdS (accW (A1 m) (cP m) (cG m) i) ++ ((cG m i).text ++ [32]) := by rw [e, wdS_snoc]
              refine ⟨1, 16 - (i + 1), by omega, i + 1, by omega, rfl, ?_, rfl, by omega, ?_⟩
              · rw [eT]; simp [cG, MW.text, hd, hl, hc]; omega
              · rw [eT]; simp [cG, MW.text, hd, hl, hc]; rfl
            · skip
              simp (maxSteps := 4000000) -dsimp [-Y1, -Array.all_eq_true, -Y3, -Y4, and_assoc, Y5, Tryz.f50, l5BitsC, sDecC, l5MarkC, l5DevC, sRealTextC, ji, j3, j1, hnl', i100, gC, ob, r1, r2, w1, hd, hl, txt_eta, i_succ (i := i) (by omega)]
              intro b
              (repeat with_reducible refine And.intro (by omega) ?_)
              refine ⟨i, rfl, i100, ?_⟩
              (repeat with_reducible refine And.intro (by omega) ?_)
              have eT : wdS (accW (A1 m) (cP m) (cG m) (i + 1)) = wdS (accW (A1 m) (cP m) (cG m) i) ++ ((cG m i).text ++ [32]) := by rw [e, wdS_snoc]
              refine ⟨1, 16 - (i + 1), by omega, i + 1, by omega, rfl, ?_, rfl, by omega, ?_⟩
              · rw [eT]; simp [cG, MW.text, hd, hl]; omega
              · rw [eT]; simp [cG, MW.text, hd, hl]; rfl
          · cases hl : (m.C i).2.1
            · skip
              simp (maxSteps := 4000000) -dsimp [-Y1, -Array.all_eq_true, -Y3, -Y4, and_assoc, Y5, Tryz.f50, l5BitsC, sDecC, l5MarkC, l5DevC, sRealTextC, ji, j3, j1, hnl', i100, gC, ob, r1, r2, w1, hd, hl, txt_eta, i_succ (i := i) (by omega)]
              intro b
              (repeat with_reducible refine And.intro (by omega) ?_)
              refine ⟨i, rfl, i100, ?_⟩
              (repeat with_reducible refine And.intro (by omega) ?_)
              have eT : wdS (accW (A1 m) (cP m) (cG m) (i + 1)) = wdS (accW (A1 m) (cP m) (cG m) i) ++ ((cG m i).text ++ [32]) := by rw [e, wdS_snoc]
              refine ⟨1, 16 - (i + 1), by omega, i + 1, by omega, rfl, ?_, rfl, by omega, ?_⟩
              · rw [eT]; simp [cG, MW.text, hd, hl]; omega
              · rw [eT]; simp [cG, MW.text, hd, hl]; rfl
            · skip
              simp (maxSteps := 4000000) -dsimp [-Y1, -Array.all_eq_true, -Y3, -Y4, and_assoc, Y5, Tryz.f50, l5BitsC, sDecC, l5MarkC, l5DevC, sRealTextC, ji, j3, j1, hnl', i100, gC, ob, r1, r2, w1, hd, hl, txt_eta, i_succ (i := i) (by omega)]
              intro b
              (repeat with_reducible refine And.intro (by omega) ?_)
              refine ⟨i, rfl, i100, ?_⟩
              (repeat with_reducible refine And.intro (by omega) ?_)
              have eT : wdS (accW (A1 m) (cP m) (cG m) (i + 1)) = wdS (accW (A1 m) (cP m) (cG m) i) ++ ((cG m i).text ++ [32]) := by rw [e, wdS_snoc]
              refine ⟨1, 16 - (i + 1), by omega, i + 1, by omega, rfl, ?_, rfl, by omega, ?_⟩
              · rw [eT]; simp [cG, MW.text, hd, hl]; omega
              · rw [eT]; simp [cG, MW.text, hd, hl]; rfl
      · obtain rfl : i = 16 := by omega
        have eA : accW (A1 m) (cP m) (cG m) 16 = A2 m := rfl
        rw [eA] at hB j3
        simp (maxSteps := 4000000) -dsimp [-Y1, -Array.all_eq_true, -Y3, -Y4, and_assoc, Y5, Tryz.f50, l5BitsC, sDecC, l5MarkC, l5DevC, sRealTextC, ji, j3, j1]
        -- whole registers
        refine loop_inv (σ := ⟨[l5BitsC, sDecC, l5MarkC, l5DevC, sRealTextC], []⟩) hmx (by kernel_rfl) (fun q cx' tm mem => cx' = ⟨w, [], w, []⟩ ∧ ∃ (i : Nat), i ≤ 32 ∧ q = 32 - i ∧ (wdS (accW (A2 m) (dP m) (dG m) i)).length ≤ 100 * (352 + i) ∧ mem = [⟨b0, cellC m, 36⟩] ∧
            Sx.look tm 9 = .v (.int .i64 i) ∧ Sx.look tm 3 = .v (.string (txt (wdS (accW (A2 m) (dP m) (dG m) i)))) ∧ Sx.look tm 1 = .p 0 b0 0)
          32 ⟨rfl, 0, by omega, rfl, by rw [accW_zero]; exact hB, rfl, by simp [Sx.look], by simp [Sx.look, j3, accW_zero], by simp [Sx.look, j1]⟩ ?_
        clear hB j3 j1
        rintro q cx tm mem ⟨rfl, i, hi, rfl, hB, rfl, ji, j3, j1⟩
        refine ⟨900, ?_⟩
        by_cases hnl : i < 32
        · have hnl' : (i : Int) < 32 := by omega
          have hD := hm.D i hnl
          have gD := get_D m i hnl
          have fD := fun h => (List.getElem_eq_iff (h := h)).2 gD
          have ob : 85 + i < 136 := by omega
          have ei : decZ (i : Int) = decL i := by unfold decZ; rw [if_neg (by omega)]; rfl
          have n1 := decL_len i 1 (by omega)
          have i100 : i ≤ 100 := by omega
          cases hp : dP m i
          · have e := accW_no (B := A2 m) (g := dG m) hp
            have q1 : m.D i = 0 := by
              unfold dP at hp
              simpa using hp
            simp (maxSteps := 4000000) -dsimp [-Y1, -Array.all_eq_true, -Y3, -Y4, and_assoc, Y5, Tryz.f50, l5BitsC, sDecC, l5MarkC, l5DevC, sRealTextC, ji, j3, j1, hnl', gD, fD, ob, q1, i_succ (i := i) (by omega)]
            try simp
            exact ⟨1, 32 - (i + 1), by omega, i + 1, by omega, rfl, by rw [e]; omega, rfl, by omega, by rw [e]⟩
          · have e := accW_yes (B := A2 m) (g := dG m) hp
            have q1 : ¬ m.D i = 0 := by
              unfold dP at hp
              simpa using hp
            have n2 := decZ_short (n := m.D i) (k := 4) (by omega)
            have r1 : -9223372036854775807 ≤ m.D i := by omega
            have r2 : m.D i ≤ 9223372036854775807 := by omega
            have w1 : IntKind.i64.wrap (m.D i) = m.D i := wrap_i64 (by omega) (by omega)
            simp (maxSteps := 4000000) -dsimp [-Y1, -Array.all_eq_true, -Y3, -Y4, and_assoc, Y5, Tryz.f50, l5BitsC, sDecC, l5MarkC, l5DevC, sRealTextC, ji, j3, j1, hnl', i100, gD, fD, ob, q1, r1, r2, w1, txt_eta, i_succ (i := i) (by omega)]
            (repeat with_reducible refine And.intro (by omega) ?_)
            refine ⟨i, rfl, i100, ?_⟩
            (repeat with_reducible refine And.intro (by omega) ?_)
            have eT : wdS (accW (A2 m) (dP m) (dG m) (i + 1)) = wdS (accW (A2 m) (dP m) (dG m) i) ++ ((dG m i).text ++ [32]) := by rw [e, wdS_snoc]
            refine ⟨1, 32 - (i + 1), by omega, i + 1, by omega, rfl, ?_, rfl, by omega, ?_⟩
            · rw [eT]; simp [dG, MW.text]; omega
            · rw [eT]; simp [dG, MW.text]; rfl
        · obtain rfl : i = 32 := by omega
          have eA : accW (A2 m) (dP m) (dG m) 32 = A3 m := rfl
          rw [eA] at hB j3
          simp (maxSteps := 4000000) -dsimp [-Y1, -Array.all_eq_true, -Y3, -Y4, and_assoc, Y5, Tryz.f50, l5BitsC, sDecC, l5MarkC, l5DevC, sRealTextC, ji, j3, j1]
          -- real registers
          refine loop_inv (σ := ⟨[l5BitsC, sDecC, l5MarkC, l5DevC, sRealTextC], []⟩) hmx (by kernel_rfl) (fun q cx' tm mem => cx' = ⟨w, [], w, []⟩ ∧ ∃ (i : Nat), i ≤ 16 ∧ q = 16 - i ∧ (wdS (accW (A3 m) (rP m) (rG m) i)).length ≤ 100 * (384 + i) ∧ mem = [⟨b0, cellC m, 36⟩] ∧
              Sx.look tm 10 = .v (.int .i64 i) ∧ Sx.look tm 3 = .v (.string (txt (wdS (accW (A3 m) (rP m) (rG m) i)))) ∧ Sx.look tm 1 = .p 0 b0 0)
            16 ⟨rfl, 0, by omega, rfl, by rw [accW_zero]; exact hB, rfl, by simp [Sx.look], by simp [Sx.look, j3, accW_zero], by simp [Sx.look, j1]⟩ ?_
          clear hB j3 j1
          rintro q cx tm mem ⟨rfl, i, hi, rfl, hB, rfl, ji, j3, j1⟩
          refine ⟨900, ?_⟩
          by_cases hnl : i < 16
          · have hnl' : (i : Int) < 16 := by omega
            have hR := hm.R i hnl
            have gR := get_R m i hnl
            have fR := fun h => (List.getElem_eq_iff (h := h)).2 gR
            have ob : 117 + i < 136 := by omega
            have ei : decZ (i : Int) = decL i := by unfold decZ; rw [if_neg (by omega)]; rfl
            have n1 := decL_len i 1 (by omega)
            have i100 : i ≤ 100 := by omega
            cases hp : rP m i
            · have e := accW_no (B := A3 m) (g := rG m) hp
              have q1 : realL (m.R i) = [48] := by
                unfold rP at hp
                have : m.R i = 0 := by simpa using hp
                rw [this, realL_fields 0 (by decide)]; decide
              simp (maxSteps := 4000000) -dsimp [-Y1, -Array.all_eq_true, -Y3, -Y4, and_assoc, Y5, Tryz.f50, l5BitsC, sDecC, l5MarkC, l5DevC, sRealTextC, ji, j3, j1, hnl', gR, fR, ob, hR, q1, i_succ (i := i) (by omega)]
              try simp
              exact ⟨1, 16 - (i + 1), by omega, i + 1, by omega, rfl, by rw [e]; omega, rfl, by omega, by rw [e]⟩
            · have e := accW_yes (B := A3 m) (g := rG m) hp
              have q1 : ¬ realL (m.R i) = [48] := by
                unfold rP at hp
                refine realL_zero hR ?_
                rw [Bool.eq_false_iff]
                intro h
                rcases sameFB_iff.1 h with ⟨h1, _⟩ | ⟨_, h2⟩
                · simp [h1] at hp
                · exact absurd h2 (by decide)
              have n2 := realL_len (m.R i)
              simp (maxSteps := 4000000) -dsimp [-Y1, -Array.all_eq_true, -Y3, -Y4, and_assoc, Y5, Tryz.f50, l5BitsC, sDecC, l5MarkC, l5DevC, sRealTextC, ji, j3, j1, hnl', i100, gR, fR, ob, hR, q1, txt_eta, i_succ (i := i) (by omega)]
              (repeat with_reducible refine And.intro (by omega) ?_)
              refine ⟨i, rfl, i100, ?_⟩
              (repeat with_reducible refine And.intro (by omega) ?_)
              have eT : wdS (accW (A3 m) (rP m) (rG m) (i + 1)) = wdS (accW (A3 m) (rP m) (rG m) i) ++ ((rG m i).text ++ [32]) := by rw [e, wdS_snoc]
              refine ⟨1, 16 - (i + 1), by omega, i + 1, by omega, rfl, ?_, rfl, by omega, ?_⟩
              · rw [eT]; simp [rG, MW.text]; omega
              · rw [eT]; simp [rG, MW.text]; rfl
          · obtain rfl : i = 16 := by omega
            have hTm := hm.Time
            have w1 : IntKind.i64.wrap m.Time = m.Time := wrap_i64 (by omega) (by omega)
            have n2 := decZ_short (n := m.Time) (k := 9) (by omega)
            have r1 : -9223372036854775807 ≤ m.Time := by omega
            have r2 : m.Time ≤ 9223372036854775807 := by omega
            have eA : accW (A3 m) (rP m) (rG m) 16 = A4 m := rfl
            rw [eA] at hB j3
            simp (maxSteps := 4000000) -dsimp [-Y1, -Array.all_eq_true, -Y3, -Y4, and_assoc, Y5, Tryz.f50, l5BitsC, sDecC, l5MarkC, l5DevC, sRealTextC, ji, j3, j1, w1, r1, r2, txt_eta]
            obtain ⟨a, ha⟩ : ∃ a : Str, a = (if 0 < m.Time then 116 :: 105 :: 109 :: 101 :: 61 :: (decZ m.Time ++ [32]) else []) := ⟨_, rfl⟩
            obtain ⟨b, hb'⟩ : ∃ b : Str, b = (if m.Ran = true then [114, 97, 110, 32] else []) := ⟨_, rfl⟩
            obtain ⟨c, hc'⟩ : ∃ c : Str, c = (if m.Fault = true then [102, 97, 117, 108, 116, 32] else []) := ⟨_, rfl⟩
            rw [← ha, ← hb', ← hc']
            have al : a.length ≤ 20 := by
              rw [ha]; split
              · simp; omega
              · simp
            have bl : b.length ≤ 4 := by rw [hb']; split <;> simp
            have cl : c.length ≤ 6 := by rw [hc']; split <;> simp
            have hM : memL m = (wdS (A4 m) ++ (a ++ (b ++ c))).dropLast := by
              have e : wdS (memW m) = wdS (A4 m) ++ (a ++ (b ++ c)) := by
                rw [memW_A, wdS_app, ha, hb', hc']
                unfold endW
                by_cases h1 : 0 < m.Time <;> cases m.Ran <;> cases m.Fault <;> simp [h1, wdS, MW.text]
              rw [← e, wdS_cut]; rfl
            (repeat with_reducible refine And.intro (by omega) ?_)
            refine ⟨fun h1 h2 h3 h4 => by rw [hM, h1, ha, hb', hc', if_neg (by omega), h3, h4]; rfl, fun h => ?_⟩
            have hpos : 1 ≤ (wdS (A4 m)).length + (a.length + (b.length + c.length)) := by
              by_cases h1 : wdS (A4 m) = []
              · by_cases h2 : 0 < m.Time
                · have : 1 ≤ a.length := by rw [ha, if_pos h2]; simp
                  omega
                · cases h3 : m.Ran
                  · have h5 := h h1 (by omega) h3
                    have : 1 ≤ c.length := by rw [hc', h5]; decide
                    omega
                  · have : 1 ≤ b.length := by rw [hb', h3]; decide
                    omega
              · have := List.length_pos_iff.2 h1
                omega
            obtain ⟨L, hL⟩ : ∃ L : Nat, L + 1 = (wdS (A4 m)).length + (a.length + (b.length + c.length)) := ⟨_, Nat.sub_add_cancel hpos⟩
            have hz : ((wdS (A4 m)).length : Int) + ((a.length : Int) + ((b.length : Int) + (c.length : Int))) - 1 = (L : Int) := by omega
            rw [hz, wrap_i64 (by omega) (by omega), Int.toNat_natCast, hM, List.dropLast_eq_take]
            have hL2 : (wdS (A4 m) ++ (a ++ (b ++ c))).length - 1 = L := by simp only [List.length_append]; omega
            rw [hL2]
            exact ⟨by omega, by omega, rfl⟩
def sMemTextC : Con Tryz.prog := Con.pure 50 Tryz.call50 (fun (m : ((M))) => [.agg (cells m)]) (fun (m : ((M))) => MOk m) (fun (m : ((M))) => .string (txt (memL m))) fun m w hp => sMemTextC_c m hp w
end Go.Proofs.YtclbanhoiaieaaaGreatDoor
