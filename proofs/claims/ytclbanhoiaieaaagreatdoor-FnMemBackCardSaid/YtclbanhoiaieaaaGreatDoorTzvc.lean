/-
  Contracts: operands read out of texts, by the reference.
-/
import Derived.Test.YtclbanhoiaieaaaGreatDoorTgvc
import Derived.Test.YtclbanhoiaieaaaGreatDoorTsvc
set_option linter.unusedVariables false
set_option linter.unusedSimpArgs false
set_option maxRecDepth 100000
set_option maxHeartbeats 4000000
namespace Go.Proofs.YtclbanhoiaieaaaGreatDoor
open Go Go.Sx
open List renaming all_eq_true → Y1, zipIdx → Y5
open Bool renaming exists_bool → Y3, forall_bool → Y4
attribute [local simp] Sx.vcsE1 Sx.vcsE2 Sx.vcsE3 Sx.vcsE4 Sx.vcsE5 Sx.vcsE6 Sx.vcsE7 Sx.vcsE8 Sx.vcsE9 Sx.vcsE10 Sx.vcsE11 Sx.vcsE12 Sx.vcsE13 Sx.vcsE14 Sx.vcsE15 Sx.vcsE16 Sx.vcsE17 Sx.vcsE18 Sx.vcsE19 Sx.get Sx.look Sx.put Sx.pureFn Sx.findOrd Sx.unF Sx.dstOk Sx.isFloatT Sx.endVC Sx.resFn Sx.packC Sx.newFn Sx.storeFn Sx.buildFn Sx.known Sx.aggT Sx.cellsC Sx.findCon Sx.allV Sx.partsV Sx.partsC Sx.fillL Sx.exitTo Sx.fAr Sx.eqFn Sx.eqFieldsFn Sx.eqElemsFn Sx.partFn Sx.sliceFn Sx.boundFn Sx.AppV Sx.CopyV Sx.MakeSliceV Sx.NewsV Sx.GrowV Sx.TextV Sx.bytesL Sx.notInt Sx.typeAt Sx.argAt Sx.den Go.undef Go.Value.cells Go.Value.oneCell' Sx.Con.pure Sx.Con.some Sx.Con.read Sx.Con.make Sx.Con.ext Sx.Con.rel Sx.Con.extS Sx.Con.draw Sx.Con.step Sx.C.one Sx.Draws.steps

theorem sFindC_c (s : Str) (c : UInt8) (hpre : s.length ≤ 4000000) (w : World) : Calls Tryz.prog 118 #[.string (txt s), .int .u8 c.toNat] w fun e w' => e = .returned (.int .i64 (idxL c s)) ∧ RowKit.Below w.heap.size w w' := by
  refine (plain_of_vcs ⟨[], []⟩ hmx Tryz.func118 rfl (by kernel_rfl) (args := [.string (txt s), .int .u8 c.toNat]) (by simp [Tryz.ntmps118]) w (· = .int .i64 (idxL c s)) 400 ?_).mono fun e w' ⟨v, h1, h2, h3⟩ => ⟨h2 ▸ h1, h3⟩
  simp (maxSteps := 4000000) -dsimp [-Y1, -Array.all_eq_true, -Y3, -Y4, and_assoc, Y5, Tryz.f118]
  refine loop_inv (σ := ⟨[], []⟩) hmx (by kernel_rfl) (fun q cx tm mem => cx = ⟨w, [], w, []⟩ ∧ mem = [] ∧ ∃ i : Nat, i ≤ s.length ∧ q = s.length - i ∧ idxL c s = (if idxL c (s.drop i) = -1 then -1 else (i : Int) + idxL c (s.drop i)) ∧ Sx.look tm 5 = .v (.int .i64 i) ∧ Sx.look tm 0 = .v (.string (txt s)) ∧ Sx.look tm 1 = .v (.int .u8 c.toNat))
    s.length ⟨rfl, rfl, 0, by omega, rfl, by simp, by simp [Sx.look], by simp [Sx.look], by simp [Sx.look]⟩ ?_
  rintro q cx tm mem ⟨rfl, rfl, i, hi, rfl, hI, j5, j0, j1⟩
  refine ⟨200, ?_⟩
  by_cases hlt : i < s.length
  · have hlt' : (i : Int) < s.length := by omega
    obtain ⟨x, hx⟩ : ∃ x, s[i]? = some x := ⟨s[i], by simp [hlt]⟩
    have hxe : ∀ (h : i < s.length), s[i]'h = x := fun h => (List.getElem?_eq_some_iff.1 hx).2
    have e1 := idxL_step (c := c) hx
    by_cases hc : x = c
    · subst hc
      rw [if_pos rfl] at e1
      rw [e1, if_neg (by omega)] at hI
      rw [hI]
      simp (maxSteps := 4000000) -dsimp [-Y1, -Array.all_eq_true, -Y3, -Y4, and_assoc, Y5, Tryz.f118, j5, j0, j1, hlt, hlt', txt_get, hx, hxe]
    · rw [if_neg hc] at e1
      have hc' : ¬ (x.toNat : Int) = c.toNat := fun e => hc (UInt8.toNat_inj.1 (by omega))
      have hc2 : ¬ x.toNat = c.toNat := fun e => hc (UInt8.toNat_inj.1 e)
      have hb := idxL_bd c (s.drop (i + 1))
      simp (maxSteps := 4000000) -dsimp [-Y1, -Array.all_eq_true, -Y3, -Y4, and_assoc, Y5, Tryz.f118, j5, j0, j1, hlt, hlt', txt_get, hx, hxe, hc, hc', hc2, i_succ (i := i) (by omega)]
      exact ⟨s.length - (i + 1), by omega, i + 1, by omega, rfl, by
        rw [hI, e1]
        by_cases hq : idxL c (s.drop (i + 1)) = -1
        · rw [if_pos hq, if_pos rfl, if_pos hq]
        · rw [if_neg hq, if_neg (by omega), if_neg hq]; omega, by omega⟩
  · obtain rfl : i = s.length := by omega
    have e : idxL c s = -1 := by rw [hI]; simp [idxL]
    have hlt2 : ¬ (s.length : Int) < s.length := by omega
    rw [e]
    simp (maxSteps := 4000000) -dsimp [-Y1, -Array.all_eq_true, -Y3, -Y4, and_assoc, Y5, Tryz.f118, j5, j0, j1, hlt2]
theorem sDigitsC_c (s : Str) (hpre : s.length ≤ 4000000) (w : World) : Calls Tryz.prog 228 #[.string (txt s)] w fun e w' => e = .returned (.int .i64 (digS s)) ∧ RowKit.Below w.heap.size w w' := by
  refine (plain_of_vcs ⟨[], []⟩ hmx Tryz.func228 rfl (by kernel_rfl) (args := [.string (txt s)]) (by simp [Tryz.ntmps228]) w (· = .int .i64 (digS s)) 400 ?_).mono fun e w' ⟨v, h1, h2, h3⟩ => ⟨h2 ▸ h1, h3⟩
  by_cases h0 : s = []
  · subst h0
    have e : digS [] = -1 := rfl
    rw [e]
    simp (maxSteps := 4000000) -dsimp [-Y1, -Array.all_eq_true, -Y3, -Y4, and_assoc, Y5, Tryz.f228]
  have hl0 : ¬ s.length = 0 := fun e => h0 (List.eq_nil_of_length_eq_zero e)
  have hl0' : ¬ (s.length : Int) = 0 := by omega
  by_cases h17 : 17 < s.length
  · have e : digS s = -1 := by unfold digS; rw [if_pos (Or.inr (Or.inl h17))]
    have h17' : (17 : Int) < s.length := by omega
    rw [e]
    simp (maxSteps := 4000000) -dsimp [-Y1, -Array.all_eq_true, -Y3, -Y4, and_assoc, Y5, Tryz.f228, h0, hl0, hl0', h17, h17']
  have h17' : ¬ (17 : Int) < s.length := by omega
  simp (maxSteps := 4000000) -dsimp [-Y1, -Array.all_eq_true, -Y3, -Y4, and_assoc, Y5, Tryz.f228, h0, hl0, hl0', h17, h17']
  refine loop_inv (σ := ⟨[], []⟩) hmx (by kernel_rfl) (fun q cx tm mem => cx = ⟨w, [], w, []⟩ ∧ mem = [] ∧ ∃ i : Nat, i ≤ s.length ∧ q = s.length - i ∧ Digs (s.take i) ∧ Sx.look tm 4 = .v (.int .i64 i) ∧ Sx.look tm 3 = .v (.int .i64 (valF 0 (s.take i) : Nat)) ∧ Sx.look tm 0 = .v (.string (txt s)))
    s.length ⟨rfl, rfl, 0, by omega, rfl, by intro c hc; simp at hc, by simp [Sx.look], by simp [Sx.look, valF], by simp [Sx.look]⟩ ?_
  rintro q cx tm mem ⟨rfl, rfl, i, hi, rfl, hI, j4, j3, j0⟩
  refine ⟨200, ?_⟩
  by_cases hlt : i < s.length
  · have hlt' : (i : Int) < s.length := by omega
    obtain ⟨x, hx⟩ : ∃ x, s[i]? = some x := ⟨s[i], by simp [hlt]⟩
    have hxe : ∀ (h : i < s.length), s[i]'h = x := fun h => (List.getElem?_eq_some_iff.1 hx).2
    have hmx : x ∈ s := List.mem_of_getElem? hx
    by_cases h1 : x.toNat < 48
    · have e : digS s = -1 := by unfold digS; rw [if_pos (Or.inr (Or.inr fun hd => by have := hd x hmx; omega))]
      have h1' : (x.toNat : Int) < 48 := by omega
      rw [e]
      simp (maxSteps := 4000000) -dsimp [-Y1, -Array.all_eq_true, -Y3, -Y4, and_assoc, Y5, Tryz.f228, j4, j3, j0, hlt, hlt', txt_get, hx, hxe, h1, h1']
    by_cases h2 : 57 < x.toNat
    · have e : digS s = -1 := by unfold digS; rw [if_pos (Or.inr (Or.inr fun hd => by have := hd x hmx; omega))]
      have h1' : ¬ (x.toNat : Int) < 48 := by omega
      have h2' : (57 : Int) < x.toNat := by omega
      rw [e]
      simp (maxSteps := 4000000) -dsimp [-Y1, -Array.all_eq_true, -Y3, -Y4, and_assoc, Y5, Tryz.f228, j4, j3, j0, hlt, hlt', txt_get, hx, hxe, h1, h1', h2, h2']
    have h1' : ¬ (x.toNat : Int) < 48 := by omega
    have h2' : ¬ (57 : Int) < x.toNat := by omega
    have hv := valF_17 hI (by rw [List.length_take]; omega)
    have hnx := valF_take hx
    generalize valF 0 (s.take i) = n at *
    have w1 : IntKind.u8.wrap ((x.toNat : Int) - 48) = x.toNat - 48 := wrap_u8 (by omega) (by omega)
    have w2 : IntKind.i64.wrap ((x.toNat : Int) - 48) = x.toNat - 48 := wrap_i64 (by omega) (by omega)
    have w3 : IntKind.i64.wrap ((n : Int) * 10) = n * 10 := wrap_i64 (by omega) (by omega)
    have w4 : IntKind.i64.wrap ((n : Int) * 10 + (x.toNat - 48)) = n * 10 + (x.toNat - 48) := wrap_i64 (by omega) (by omega)
    simp (maxSteps := 4000000) -dsimp [-Y1, -Array.all_eq_true, -Y3, -Y4, and_assoc, Y5, Tryz.f228, j4, j3, j0, hlt, hlt', txt_get, hx, hxe, h1, h1', h2, h2', w1, w2, w3, w4, i_succ (i := i) (by omega)]
    exact ⟨s.length - (i + 1), by omega, i + 1, by omega, rfl, digs_take hx hI ⟨by omega, by omega⟩, by omega, by rw [hnx]; omega⟩
  · obtain rfl : i = s.length := by omega
    rw [List.take_length] at hI j3
    have e : digS s = (valF 0 s : Nat) := digS_of h0 (by omega) hI
    have hlt2 : ¬ (s.length : Int) < s.length := by omega
    rw [e]
    simp (maxSteps := 4000000) -dsimp [-Y1, -Array.all_eq_true, -Y3, -Y4, and_assoc, Y5, Tryz.f228, j4, j3, j0, hlt2]
def sDigitsC : Con Tryz.prog := Con.pure 228 Tryz.call228 (fun (s : ((Str))) => [.string (txt s)]) (fun (s : ((Str))) => s.length ≤ 4000000) (fun (s : ((Str))) => .int .i64 (digS s)) fun s w hp => sDigitsC_c s hp w
def sFindDot : Con Tryz.prog := Con.pure 118 Tryz.call118 (fun (s : Str) => [.string (txt s), .int .u8 46]) (fun s => s.length ≤ 4000000) (fun s => .int .i64 (idxL 46 s)) fun s w hp => sFindC_c s 46 hp w
theorem sGuessC_c (s : Str) (hpre : s.length ≤ 2000000) (w : World) : Calls Tryz.prog 183 #[.string (txt s)] w fun e w' => e = .returned (.agg #[.int .i64 (guessS s).k, .int .i64 (guessS s).n, .int .i64 (guessS s).p]) ∧ RowKit.Below w.heap.size w w' := by
  refine (plain_of_vcs ⟨[l2WordsC, sDevLetterC, sDigitsC, sFindDot], []⟩ hmx Tryz.func183 rfl (by kernel_rfl) (args := [.string (txt s)]) (by simp [Tryz.ntmps183]) w (· = .agg #[.int .i64 (guessS s).k, .int .i64 (guessS s).n, .int .i64 (guessS s).p]) 300 ?_).mono fun e w' ⟨v, h1, h2, h3⟩ => ⟨h2 ▸ h1, h3⟩
  simp (maxSteps := 4000000) -dsimp [-Y1, -Array.all_eq_true, -Y3, -Y4, and_assoc, Y5, Tryz.f183, l2WordsC, sDevLetterC, sDigitsC, sFindDot]
  intro b
  refine loop_inv (σ := ⟨[l2WordsC, sDevLetterC, sDigitsC, sFindDot], []⟩) hmx (by kernel_rfl) (fun q cx tm mem => Le ⟨w, [], w, []⟩ cx ∧ mem = [⟨b, [.v (.int .i64 0), .v (.int .i64 0), .v (.int .i64 0)], 91⟩] ∧ ∃ i : Nat, i ≤ 4 ∧ q = 4 - i ∧ (∀ j, j < i → words4[j]? ≠ some s) ∧ Sx.look tm 3 = .v (.int .i64 i) ∧ Sx.look tm 2 = .p 0 b 0 ∧ Sx.look tm 0 = .v (.string (txt s)))
    4 ⟨Le.refl _, rfl, 0, by omega, rfl, by omega, by simp [Sx.look], by simp [Sx.look], by simp [Sx.look]⟩ ?_
  rintro q cx tm mem ⟨hle, rfl, i, hi, rfl, hI, j3, j2, j0⟩
  refine ⟨400, ?_⟩
  have w0 := hle.w0
  have g0 := hle.g0
  by_cases hlt : i < 4
  · have hlt' : (i : Int) < 4 := by omega
    obtain ⟨z, hz⟩ : ∃ z, words4[i]? = some z := ⟨words4[i]'(by simpa [words4] using hlt), List.getElem?_eq_getElem _⟩
    simp (maxSteps := 4000000) -dsimp [-Y1, -Array.all_eq_true, -Y3, -Y4, and_assoc, Y5, Tryz.f183, l2WordsC, sDevLetterC, sDigitsC, sFindDot, j3, j2, j0, hlt, hlt']
    refine ⟨(), rfl, trivial, ?_⟩
    rintro cx1 v hle1 hv
    obtain ⟨a, rfl, hl⟩ := hv.ex
    have l0 := fun (d : Nat) (mem : List Blk) (K : Value → Prop) => RdL.ld (P := Tryz.prog) (d := d) (K := K) ((hl.mono ((sub_new cx1).trans (sub_now cx1 mem)) : RdL (nowF cx1 mem) (some a) (words4.map fun z => Value.string (txt z)))) (t := 9) (by kernel_rfl) (i := i) (v := .string (txt z)) (by rw [List.getElem?_map, hz]; rfl)
    have w1 := (hle.trans hle1).w0
    have g1 := (hle.trans hle1).g0
    by_cases he : s = z
    · subst he
      have hw : idxW s words4 = i := idxW_hit hz hI
      have hg := word_guessS (s := s) (by omega)
      rw [hw] at hg
      rw [hg]
      simp (maxSteps := 4000000) -dsimp [-Y1, -Array.all_eq_true, -Y3, -Y4, and_assoc, Y5, Tryz.f183, l2WordsC, sDevLetterC, sDigitsC, sFindDot, j3, j2, j0, hlt, hlt', l0]
      exact ⟨w1, g1⟩
    · simp (maxSteps := 4000000) -dsimp [-Y1, -Array.all_eq_true, -Y3, -Y4, and_assoc, Y5, Tryz.f183, l2WordsC, sDevLetterC, sDigitsC, sFindDot, j3, j2, j0, hlt, hlt', l0, he, i_succ (i := i) (by omega)]
      exact ⟨1, 4 - (i + 1), by omega, hle.trans hle1, rfl, i + 1, by omega, rfl, fun j hj e => by
        by_cases hji : j = i
        · subst hji; rw [hz] at e; cases e; exact he rfl
        · exact hI j (by omega) e, by omega⟩
  · obtain rfl : i = 4 := by omega
    have hw : ¬ 0 ≤ idxW s words4 := by
      rw [idxW_miss]
      · decide
      · intro hm
        obtain ⟨j, hj, e⟩ := List.mem_iff_getElem.1 hm
        exact hI j (by simpa [words4] using hj) (by rw [List.getElem?_eq_getElem hj, e])
    simp (maxSteps := 4000000) -dsimp [-Y1, -Array.all_eq_true, -Y3, -Y4, and_assoc, Y5, Tryz.f183, l2WordsC, sDevLetterC, sDigitsC, sFindDot, j3, j2, j0]
    refine loop_inv (σ := ⟨[l2WordsC, sDevLetterC, sDigitsC, sFindDot], []⟩) hmx (by kernel_rfl) (fun q cx' tm mem => cx' = cx ∧ mem = [⟨b, [.v (.int .i64 0), .v (.int .i64 0), .v (.int .i64 0)], 91⟩] ∧ ∃ k : Nat, 1 ≤ k ∧ k ≤ 11 ∧ q = 11 - k ∧ (∀ j : Int, 1 ≤ j → j < k → s.head? ≠ some (letterU j)) ∧ Sx.look tm 4 = .v (.int .i64 k) ∧ Sx.look tm 2 = .p 0 b 0 ∧ Sx.look tm 0 = .v (.string (txt s)))
      10 ⟨rfl, rfl, 1, by omega, by omega, rfl, by omega, by simp [Sx.look], by simp [Sx.look, j2], by simp [Sx.look, j0]⟩ ?_
    rintro q cx' tm mem ⟨rfl, rfl, k, hk1, hk, rfl, hK, k4, k2, k0⟩
    refine ⟨400, ?_⟩
    by_cases hlt : k ≤ 10
    · have hlt' : (k : Int) ≤ 10 := by omega
      have hk1' : (1 : Int) ≤ k := by omega
      cases s with
      | nil =>
        simp (maxSteps := 4000000) -dsimp [-Y1, -Array.all_eq_true, -Y3, -Y4, and_assoc, Y5, Tryz.f183, l2WordsC, sDevLetterC, sDigitsC, sFindDot, k4, k2, k0, hlt, hlt', txt_eta, i_succ (i := k) (by omega)]
        exact ⟨1, 11 - (k + 1), by omega, rfl, k + 1, by omega, by omega, rfl, by omega⟩
      | cons x r =>
        by_cases he : x = letterU k
        · have hx := (letter_facts k (by omega) (by omega)).1
          rw [← he] at hx
          have hg := guessS_letter hw (by omega)
          rw [hx, show (1 : Int) + (k - 1) = k by omega] at hg
          rw [hg]
          simp only [List.length_cons] at hpre
          have hr : r.length ≤ 4000000 := by omega
          simp (maxSteps := 4000000) -dsimp [-Y1, -Array.all_eq_true, -Y3, -Y4, and_assoc, Y5, Tryz.f183, l2WordsC, sDevLetterC, sDigitsC, sFindDot, k4, k2, k0, hlt, hlt', hk1', ← he, hr, txt_eta]
          exact ⟨by omega, w0, g0⟩
        · simp (maxSteps := 4000000) -dsimp [-Y1, -Array.all_eq_true, -Y3, -Y4, and_assoc, Y5, Tryz.f183, l2WordsC, sDevLetterC, sDigitsC, sFindDot, k4, k2, k0, hlt, hlt', hk1', he, txt_eta, i_succ (i := k) (by omega)]
          exact ⟨by omega, 1, 11 - (k + 1), by omega, rfl, k + 1, by omega, by omega, rfl, fun j h1 h2 e => by
            by_cases hjk : j = k
            · subst hjk; exact he e
            · exact hK j h1 (by omega) (by rw [List.head?_cons, e]), by omega⟩
    · obtain rfl : k = 11 := by omega
      cases s with
      | nil =>
        have ef : idxL 46 [] = -1 := rfl
        have ed : digS [] = -1 := rfl
        rw [guessS_nil]
        have ew : IntKind.i64.wrap (-1) = -1 := by decide
        simp (maxSteps := 4000000) -dsimp [-Y1, -Array.all_eq_true, -Y3, -Y4, and_assoc, Y5, Tryz.f183, l2WordsC, sDevLetterC, sDigitsC, sFindDot, k4, k2, k0, txt_eta, ef, ed, ew]
        exact ⟨w0, g0⟩
      | cons x r =>
        have hx : ¬ 0 ≤ idxL x letters := by
          rw [letters_none fun k h1 h2 e => hK k h1 (by omega) (by rw [e]; rfl)]
          decide
        rw [guessS_num hw hx]
        simp only [List.length_cons] at hpre
        have fin : ∀ (sg : Int) (u : Str), (sg = 1 ∨ sg = -1) → u.length ≤ 2000000 → (∀ l : Str, IntKind.i64.wrap (sg * digS l) = sg * digS l) ∧ (0 ≤ idxL 46 u → IntKind.i64.wrap (idxL 46 u + 1) = idxL 46 u + 1 ∧ IntKind.i64.wrap ((u.length : Int) - idxL 46 u) = u.length - idxL 46 u ∧ IntKind.i64.wrap ((u.length : Int) - idxL 46 u - 1) = u.length - idxL 46 u - 1 ∧ idxL 46 u ≤ u.length ∧ idxL 46 u + 1 ≤ u.length ∧ 0 ≤ idxL 46 u + 1 ∧ (idxL 46 u + 1).toNat = (idxL 46 u).toNat + 1) := by
          intro sg u hsg hu
          refine ⟨fun l => ?_, fun h => ?_⟩
          · have := digS_bd l
            rcases hsg with rfl | rfl
            · rw [Int.one_mul]; exact wrap_i64 (by omega) (by omega)
            · rw [Int.neg_one_mul]; exact wrap_i64 (by omega) (by omega)
          · have := idxL_bd 46 u
            exact ⟨wrap_i64 (by omega) (by omega), wrap_i64 (by omega) (by omega), wrap_i64 (by omega) (by omega), by omega, by omega, by omega, by omega⟩
        by_cases h45 : x = 45
        · subst h45
          simp only [if_true]
          obtain ⟨f1, f2⟩ := fin (-1) r (Or.inr rfl) (by omega)
          simp only [Int.neg_one_mul] at f1
          have hr : r.length ≤ 4000000 := by omega
          by_cases hd : idxL 46 r < 0
          · rw [if_pos hd]
            simp (maxSteps := 4000000) -dsimp [-Y1, -Array.all_eq_true, -Y3, -Y4, and_assoc, Y5, Tryz.f183, l2WordsC, sDevLetterC, sDigitsC, sFindDot, k4, k2, k0, txt_eta, txt_get, hd, f1, hr]
            exact ⟨by omega, w0, g0⟩
          · rw [if_neg hd]
            obtain ⟨g1, g2, g3, g4, g5, g6, g7⟩ := f2 (by omega)
            have hr2 : (r.take (idxL 46 r).toNat ++ r.drop ((idxL 46 r).toNat + 1)).length ≤ 4000000 := by simp; omega
            simp (maxSteps := 4000000) -dsimp [-Y1, -Array.all_eq_true, -Y3, -Y4, and_assoc, Y5, Tryz.f183, l2WordsC, sDevLetterC, sDigitsC, sFindDot, k4, k2, k0, txt_eta, txt_get, hd, f1, hr, hr2, g1, g2, g3, g4, g5, g6, g7]
            exact ⟨by omega, by omega, fun _ => ⟨by omega, by omega, by omega, w0, g0⟩⟩
        · have hn45 : ¬ (x.toNat : Int) = 45 := fun e => h45 (UInt8.toNat_inj.1 (by show x.toNat = 45; omega))
          simp only [if_neg h45, Int.one_mul]
          obtain ⟨f1, f2⟩ := fin 1 (x :: r) (Or.inl rfl) (by simp; omega)
          simp only [Int.one_mul] at f1
          have hr : (x :: r).length ≤ 4000000 := by simp; omega
          by_cases hd : idxL 46 (x :: r) < 0
          · rw [if_pos hd]
            simp (maxSteps := 4000000) -dsimp [-Y1, -Array.all_eq_true, -Y3, -Y4, and_assoc, Y5, Tryz.f183, l2WordsC, sDevLetterC, sDigitsC, sFindDot, k4, k2, k0, txt_eta, txt_get, hn45, hd, f1, hr]
            exact ⟨by omega, w0, g0⟩
          · rw [if_neg hd]
            obtain ⟨g1, g2, g3, g4, g5, g6, g7⟩ := f2 (by omega)
            have hr2 : ((x :: r).take (idxL 46 (x :: r)).toNat ++ (x :: r).drop ((idxL 46 (x :: r)).toNat + 1)).length ≤ 4000000 := by simp; omega
            have hwl : IntKind.i64.wrap ((r.length : Int) + 1 - idxL 46 (x :: r)) = r.length + 1 - idxL 46 (x :: r) := wrap_i64 (by simp at g4; omega) (by omega)
            have hwm : IntKind.i64.wrap ((r.length : Int) + 1 - idxL 46 (x :: r) - 1) = r.length + 1 - idxL 46 (x :: r) - 1 := wrap_i64 (by simp at g4; omega) (by omega)
            simp only [List.length_cons] at g4 g5
            simp (maxSteps := 4000000) -dsimp [-Y1, -Array.all_eq_true, -Y3, -Y4, and_assoc, Y5, Tryz.f183, l2WordsC, sDevLetterC, sDigitsC, sFindDot, k4, k2, k0, txt_eta, txt_get, hn45, hd, f1, hr, hr2, g1, g2, g3, g4, g5, g6, g7, hwl, hwm]
            exact ⟨by omega, by omega, fun _ => ⟨by omega, by omega, by omega, by omega, by omega, w0, g0⟩⟩
def sGuessC : Con Tryz.prog := Con.pure 183 Tryz.call183 (fun (s : ((Str))) => [.string (txt s)]) (fun (s : ((Str))) => s.length ≤ 2000000) (fun (s : ((Str))) => .agg #[.int .i64 (guessS s).k, .int .i64 (guessS s).n, .int .i64 (guessS s).p]) fun s w hp => sGuessC_c s hp w
theorem sDevReadC_c (s : Str) (hpre : s.length ≤ 2000000) (w : World) : Calls Tryz.prog 120 #[.string (txt s)] w fun e w' => e = .returned (devTup (devRd s)) ∧ RowKit.Below w.heap.size w w' := by
  refine (plain_of_vcs ⟨[sGuessC, sDevTextC], []⟩ hmx Tryz.func120 rfl (by kernel_rfl) (args := [.string (txt s)]) (by simp [Tryz.ntmps120]) w (· = devTup (devRd s)) 400 ?_).mono fun e w' ⟨v, h1, h2, h3⟩ => ⟨h2 ▸ h1, h3⟩
  by_cases h0 : s = []
  · subst h0
    rw [devRd_nil]
    simp (maxSteps := 4000000) -dsimp [-Y1, -Array.all_eq_true, -Y3, -Y4, and_assoc, Y5, Tryz.f120, sGuessC, sDevTextC, txt_eta, devTup]
  · have he := devRd_byS h0 (g := ⟨(guessS s).k, (guessS s).n, (guessS s).p⟩) rfl
    rw [he]
    by_cases hq : devL ⟨(guessS s).k, (guessS s).n, (guessS s).p⟩ = s
    · rw [if_pos hq]
      simp (maxSteps := 4000000) -dsimp [-Y1, -Array.all_eq_true, -Y3, -Y4, and_assoc, Y5, Tryz.f120, sGuessC, sDevTextC, txt_eta, devTup, h0, hq, hpre]
    · rw [if_neg hq]
      simp (maxSteps := 4000000) -dsimp [-Y1, -Array.all_eq_true, -Y3, -Y4, and_assoc, Y5, Tryz.f120, sGuessC, sDevTextC, txt_eta, devTup, h0, hq, hpre]
def sDevReadC : Con Tryz.prog := Con.pure 120 Tryz.call120 (fun (s : ((Str))) => [.string (txt s)]) (fun (s : ((Str))) => s.length ≤ 2000000) (fun (s : ((Str))) => devTup (devRd s)) fun s w hp => sDevReadC_c s hp w
end Go.Proofs.YtclbanhoiaieaaaGreatDoor
