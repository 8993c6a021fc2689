/-
  Contracts: numbers, last bytes and real numbers read out of texts, by the reference.
-/
import Derived.Test.YtclbanhoiaieaaaGreatDoorVhvc
import Derived.Test.YtclbanhoiaieaaaGreatDoorTzvc
set_option linter.unusedVariables false
set_option linter.unusedSimpArgs false
set_option maxRecDepth 100000
set_option maxHeartbeats 4000000
namespace Go.Sx
open Go
def sgnV (neg : Bool) (n : Nat) : Int := if neg then -(n : Int) else n
def numT (neg : Bool) (r : Str) : Int × Bool := if r = [] ∨ 17 < r.length ∨ (r.headD 0 = 48 ∧ (1 < r.length ∨ neg = true)) ∨ ¬ Digs r then (0, false) else (sgnV neg (valF 0 r), true)
def numS (s : Str) : Int × Bool := if s.headD 0 = 45 then numT true (s.drop 1) else numT false s
theorem numT_bad {neg : Bool} {r : Str} (h : r = [] ∨ 17 < r.length ∨ (r.headD 0 = 48 ∧ (1 < r.length ∨ neg = true)) ∨ ¬ Digs r) : numT neg r = (0, false) := if_pos h
theorem numT_good {neg : Bool} {r : Str} (h0 : r ≠ []) (h1 : r.length ≤ 17) (h2 : ¬ (r.headD 0 = 48 ∧ (1 < r.length ∨ neg = true))) (h3 : Digs r) : numT neg r = (sgnV neg (valF 0 r), true) :=
  if_neg fun h => by
    rcases h with h | h | h | h
    · exact h0 h
    · omega
    · exact h2 h
    · exact h h3
theorem decL_first (n : Nat) (h : n ≠ 0) : (decL n).headD 0 ≠ 48 := by
  induction n using Nat.strongRecOn with
  | _ n ih =>
    by_cases h9 : n ≤ 9
    · rw [decL_low h9]
      intro e
      have e2 : digU n = 48 := e
      have := digU_nat h9
      rw [e2] at this
      have e3 : (48 : UInt8).toNat = 48 := rfl
      omega
    · rw [decL_up h9]
      have := ih (n / 10) (by omega) (by omega)
      obtain ⟨c, r, hc, _⟩ := decL_cons (n / 10)
      rw [hc] at this ⊢
      exact this
theorem decL_one {n : Nat} (h : 1 < (decL n).length) : n ≠ 0 := fun e => by subst e; rw [decL_low (by omega)] at h; simp at h
theorem numT_dec {neg : Bool} {n : Nat} (h : n < 100000000000000000) (h0 : neg = true → n ≠ 0) : numT neg (decL n) = (sgnV neg n, true) := by
  have hv : valF 0 (decL n) = n := valD_dec n
  rw [numT_good (decL_ne n) (decL_len n 16 (by omega)) ?_ (decL_dig n), hv]
  rintro ⟨h1, h2⟩
  refine decL_first n ?_ h1
  rcases h2 with h2 | h2
  · exact decL_one h2
  · exact h0 h2
theorem numS_dec {n : Int} (h : n.natAbs < 100000000000000000) : numS (decZ n) = (n, true) := by
  unfold numS decZ
  by_cases hn : n < 0
  · rw [if_pos hn, if_pos (by rfl)]
    show numT true (decL n.natAbs) = _
    rw [numT_dec h (by omega)]
    simp [sgnV]
    omega
  · rw [if_neg hn]
    have hx : (decL n.natAbs).headD 0 ≠ 45 := by
      obtain ⟨c, r, hc, h1, h2⟩ := decL_cons n.natAbs
      rw [hc]
      intro e
      have e' : c = 45 := e
      subst e'
      have : (45 : UInt8).toNat = 45 := rfl
      omega
    rw [if_neg hx, numT_dec h (by simp)]
    simp [sgnV]
    omega
theorem txt_getE (l : Str) (i : Nat) (h : i < (txt l).size) : (txt l)[i]'h = l[i]'(by rwa [txt_size] at h) := rfl
def tailS (s : Str) (c : UInt8) : Str × Bool := if s.getLast? = some c then (s.dropLast, true) else (s, false)
theorem tailS_len (s : Str) (c : UInt8) : (tailS s c).1.length ≤ s.length := by
  unfold tailS
  split
  · simp
  · exact Nat.le_refl _
theorem tailS_yes (s : Str) (c : UInt8) : tailS (s ++ [c]) c = (s, true) := by unfold tailS; simp
theorem tailS_no {s : Str} {c : UInt8} (h : c ∉ s) : tailS s c = (s, false) := by
  unfold tailS
  rw [if_neg]
  intro e
  exact h (List.mem_of_getLast? e)
theorem tail_mark (n : Int) (d : Bool) : tailS (decZ n ++ markS d 33) 33 = (decZ n, d) := by
  cases d
  · unfold markS; simp; exact tailS_no (decZ_no33 n)
  · unfold markS; simp; exact tailS_yes _ _
theorem tail_marks (n : Int) (d l : Bool) : tailS (decZ n ++ markS d 33 ++ markS l 43) 43 = (decZ n ++ markS d 33, l) := by
  cases l
  · have : (43 : UInt8) ∉ decZ n ++ markS d 33 := by
      rw [List.mem_append]
      rintro (h | h)
      · exact decZ_no43 n h
      · cases d <;> simp [markS] at h
    have e : markS false 43 = [] := rfl
    rw [e, List.append_nil]
    exact tailS_no this
  · exact tailS_yes _ _
end Go.Sx
namespace Go.Proofs.YtclbanhoiaieaaaGreatDoor
open Go Go.Sx
open List renaming all_eq_true → Y1, zipIdx → Y5
open Bool renaming exists_bool → Y3, forall_bool → Y4
attribute [local simp] Sx.vcsE1 Sx.vcsE2 Sx.vcsE3 Sx.vcsE4 Sx.vcsE5 Sx.vcsE6 Sx.vcsE7 Sx.vcsE8 Sx.vcsE9 Sx.vcsE10 Sx.vcsE11 Sx.vcsE12 Sx.vcsE13 Sx.vcsE14 Sx.vcsE15 Sx.vcsE16 Sx.vcsE17 Sx.vcsE18 Sx.vcsE19 Sx.get Sx.look Sx.put Sx.pureFn Sx.findOrd Sx.unF Sx.dstOk Sx.isFloatT Sx.endVC Sx.resFn Sx.packC Sx.newFn Sx.storeFn Sx.buildFn Sx.known Sx.aggT Sx.cellsC Sx.findCon Sx.allV Sx.partsV Sx.partsC Sx.fillL Sx.exitTo Sx.fAr Sx.eqFn Sx.eqFieldsFn Sx.eqElemsFn Sx.partFn Sx.sliceFn Sx.boundFn Sx.AppV Sx.CopyV Sx.MakeSliceV Sx.NewsV Sx.GrowV Sx.TextV Sx.bytesL Sx.notInt Sx.typeAt Sx.argAt Sx.den Go.undef Go.Value.cells Go.Value.oneCell' Sx.Con.pure Sx.Con.some Sx.Con.read Sx.Con.make Sx.Con.ext Sx.Con.rel Sx.Con.extS Sx.Con.draw Sx.Con.step Sx.C.one Sx.Draws.steps

theorem sTailC_c (s : Str) (c : UInt8) (hpre : s.length ≤ 2000000) (w : World) : Calls Tryz.prog 186 #[.string (txt s), .int .u8 c.toNat] w fun e w' => e = .returned (.tuple #[.string (txt (tailS s c).1), .bool (tailS s c).2]) ∧ RowKit.Below w.heap.size w w' := by
  refine (plain_of_vcs ⟨[], []⟩ hmx Tryz.func186 rfl (by kernel_rfl) (args := [.string (txt s), .int .u8 c.toNat]) (by simp [Tryz.ntmps186]) w (· = .tuple #[.string (txt (tailS s c).1), .bool (tailS s c).2]) 400 ?_).mono fun e w' ⟨v, h1, h2, h3⟩ => ⟨h2 ▸ h1, h3⟩
  by_cases h0 : s = []
  · subst h0
    have e : tailS [] c = ([], false) := rfl
    rw [e]
    simp (maxSteps := 4000000) -dsimp [-Y1, -Array.all_eq_true, -Y3, -Y4, and_assoc, Y5, Tryz.f186]
  obtain ⟨r, x, rfl⟩ : ∃ r x, s = r ++ [x] := ⟨s.dropLast, s.getLast h0, (List.dropLast_concat_getLast h0).symm⟩
  have hl : r.length < 2000000 := by
    have h : (r ++ [x]).length ≤ 2000000 := hpre
    rw [List.length_append, List.length_singleton] at h
    omega
  have w1 : IntKind.i64.wrap (r.length : Int) = r.length := wrap_i64 (by omega) (by omega)
  have hx : (r ++ [x])[r.length]? = some x := by simp
  have hp : (0 : Int) < (r.length : Int) + 1 := by omega
  have hg1 : (r.length : Int) ≤ (r.length : Int) + 1 := by omega
  have htk : (r ++ [x]).take r.length = r := by simp
  by_cases hc : x = c
  · subst hc
    rw [tailS_yes]
    simp (maxSteps := 4000000) -dsimp [-Y1, -Array.all_eq_true, -Y3, -Y4, and_assoc, Y5, Tryz.f186, w1, hp, hg1, txt_get, txt_getE, hx, htk]
  · have hc' : ¬ (x.toNat : Int) = c.toNat := fun e => hc (UInt8.toNat_inj.1 (by omega))
    have hc2 : ¬ x.toNat = c.toNat := fun e => hc (UInt8.toNat_inj.1 e)
    have e : tailS (r ++ [x]) c = (r ++ [x], false) := by unfold tailS; simp [hc]
    rw [e]
    simp (maxSteps := 4000000) -dsimp [-Y1, -Array.all_eq_true, -Y3, -Y4, and_assoc, Y5, Tryz.f186, w1, hp, hg1, txt_get, txt_getE, hx, htk, hc, hc', hc2]
theorem sNumC_c (s : Str) (hpre : s.length ≤ 2000000) (w : World) : Calls Tryz.prog 119 #[.string (txt s)] w fun e w' => e = .returned (.tuple #[.int .i64 (numS s).1, .bool (numS s).2]) ∧ RowKit.Below w.heap.size w w' := by
  refine (plain_of_vcs ⟨[], []⟩ hmx Tryz.func119 rfl (by kernel_rfl) (args := [.string (txt s)]) (by simp [Tryz.ntmps119]) w (· = .tuple #[.int .i64 (numS s).1, .bool (numS s).2]) 400 ?_).mono fun e w' ⟨v, h1, h2, h3⟩ => ⟨h2 ▸ h1, h3⟩
  by_cases hneg : s.headD 0 = 45
  · obtain ⟨r, rfl⟩ : ∃ r, s = 45 :: r := by
      cases s with
      | nil => exact absurd hneg (by decide)
      | cons a r => exact ⟨r, by have : a = 45 := hneg; rw [this]⟩
    have hN : numS (45 :: r) = numT true r := by unfold numS; rw [if_pos hneg]; rfl
    rw [hN]
    have hl1 : r.length + 1 ≤ 2000000 := by simpa using hpre
    have hl1c : (0 : Int) < (r.length : Int) + 1 := by omega
    have hg1 : (1 : Int) ≤ (r.length : Int) + 1 := by omega
    have h45 : (45 :: r : Str)[0]? = some 45 := rfl
    by_cases h0 : r = []
    · have e : numT true r = (0, false) := numT_bad (Or.inl h0)
      rw [e]
      subst h0
      simp (maxSteps := 4000000) -dsimp [-Y1, -Array.all_eq_true, -Y3, -Y4, and_assoc, Y5, Tryz.f119, txt_get, txt_getE, hl1c, hg1, h45]
    have hl0 : ¬ r.length = 0 := fun e => h0 (List.eq_nil_of_length_eq_zero e)
    have hl0' : ¬ (r.length : Int) = 0 := by omega
    have hp0 : 0 < r.length := by omega
    by_cases h17 : 17 < r.length
    · have e : numT true r = (0, false) := numT_bad (Or.inr (Or.inl h17))
      have h17' : (17 : Int) < r.length := by omega
      rw [e]
      simp (maxSteps := 4000000) -dsimp [-Y1, -Array.all_eq_true, -Y3, -Y4, and_assoc, Y5, Tryz.f119, txt_get, txt_getE, hl1c, hg1, h45, h0, hl0, hl0', hp0, h17, h17']
    have h17' : ¬ (17 : Int) < r.length := by omega
    obtain ⟨z, hz⟩ : ∃ z, r[0]? = some z := ⟨r[0], by simp [hp0]⟩
    have hze : ∀ (h : 0 < r.length), r[0]'h = z := fun h => (List.getElem?_eq_some_iff.1 hz).2
    have hzh : r.headD 0 = z := by cases r with | nil => cases hz | cons a l => simpa using hz
    by_cases hZ : r.headD 0 = 48 ∧ (1 < r.length ∨ true = true)
    · have e : numT true r = (0, false) := numT_bad (Or.inr (Or.inr (Or.inl hZ)))
      rw [e]
      obtain ⟨h48, hq⟩ := hZ
      rw [hzh] at h48
      subst h48
      by_cases hl2 : (1 : Int) < r.length
      · simp (maxSteps := 4000000) -dsimp [-Y1, -Array.all_eq_true, -Y3, -Y4, and_assoc, Y5, Tryz.f119, txt_get, txt_getE, hl1c, hg1, h45, h0, hl0, hl0', hp0, h17, h17', txt_get, txt_getE, hz, hze, hl2]
      · simp (maxSteps := 4000000) -dsimp [-Y1, -Array.all_eq_true, -Y3, -Y4, and_assoc, Y5, Tryz.f119, txt_get, txt_getE, hl1c, hg1, h45, h0, hl0, hl0', hp0, h17, h17', txt_get, txt_getE, hz, hze, hl2]
    have hZ' : ¬ (z.toNat : Int) = 48 := fun e => hZ ⟨by rw [hzh]; exact UInt8.toNat_inj.1 (by show z.toNat = 48; omega), Or.inr rfl⟩
    have hZ2 : ¬ z = 48 := fun e => hZ ⟨by rw [hzh]; exact e, Or.inr rfl⟩
    simp (maxSteps := 4000000) -dsimp [-Y1, -Array.all_eq_true, -Y3, -Y4, and_assoc, Y5, Tryz.f119, txt_get, txt_getE, hl1c, hg1, h45, h0, hl0, hl0', hp0, h17, h17', txt_get, txt_getE, hz, hze, hZ', hZ2]
    refine loop_inv (σ := ⟨[], []⟩) hmx (by kernel_rfl) (fun q cx tm mem => cx = ⟨w, [], w, []⟩ ∧ mem = [] ∧ ∃ i : Nat, i ≤ r.length ∧ q = r.length - i ∧ Digs (r.take i) ∧ Sx.look tm 6 = .v (.int .i64 i) ∧ Sx.look tm 5 = .v (.int .i64 (valF 0 (r.take i) : Nat)) ∧ Sx.look tm 4 = .v (.bool true) ∧ Sx.look tm 0 = .v (.string (txt r)))
      r.length ⟨rfl, rfl, 0, by omega, rfl, by intro c hc; simp at hc, by simp [Sx.look], by simp [Sx.look, valF], by simp [Sx.look], by simp [Sx.look]⟩ ?_
    rintro q cx tm mem ⟨rfl, rfl, i, hi, rfl, hI, j6, j5, j4, j0⟩
    refine ⟨200, ?_⟩
    by_cases hlt : i < r.length
    · have hlt' : (i : Int) < r.length := by omega
      obtain ⟨x, hx⟩ : ∃ x, r[i]? = some x := ⟨r[i], by simp [hlt]⟩
      have hxe : ∀ (h : i < r.length), r[i]'h = x := fun h => (List.getElem?_eq_some_iff.1 hx).2
      have hmx : x ∈ r := List.mem_of_getElem? hx
      by_cases h1 : x.toNat < 48
      · have e : numT true r = (0, false) := numT_bad (Or.inr (Or.inr (Or.inr fun hd => by have := hd x hmx; omega)))
        have h1' : (x.toNat : Int) < 48 := by omega
        rw [e]
        simp (maxSteps := 4000000) -dsimp [-Y1, -Array.all_eq_true, -Y3, -Y4, and_assoc, Y5, Tryz.f119, j6, j5, j4, j0, hlt, hlt', txt_get, txt_getE, hx, hxe, h1, h1']
      by_cases h2 : 57 < x.toNat
      · have e : numT true r = (0, false) := numT_bad (Or.inr (Or.inr (Or.inr fun hd => by have := hd x hmx; omega)))
        have h1' : ¬ (x.toNat : Int) < 48 := by omega
        have h2' : (57 : Int) < x.toNat := by omega
        rw [e]
        simp (maxSteps := 4000000) -dsimp [-Y1, -Array.all_eq_true, -Y3, -Y4, and_assoc, Y5, Tryz.f119, j6, j5, j4, j0, hlt, hlt', txt_get, txt_getE, hx, hxe, h1, h1', h2, h2']
      have h1' : ¬ (x.toNat : Int) < 48 := by omega
      have h2' : ¬ (57 : Int) < x.toNat := by omega
      have hv := valF_17 hI (by rw [List.length_take]; omega)
      have hnx := valF_take hx
      generalize valF 0 (r.take i) = n at *
      have w1 : IntKind.u8.wrap ((x.toNat : Int) - 48) = x.toNat - 48 := wrap_u8 (by omega) (by omega)
      have w2 : IntKind.i64.wrap ((x.toNat : Int) - 48) = x.toNat - 48 := wrap_i64 (by omega) (by omega)
      have w3 : IntKind.i64.wrap ((n : Int) * 10) = n * 10 := wrap_i64 (by omega) (by omega)
      have w4 : IntKind.i64.wrap ((n : Int) * 10 + (x.toNat - 48)) = n * 10 + (x.toNat - 48) := wrap_i64 (by omega) (by omega)
      simp (maxSteps := 4000000) -dsimp [-Y1, -Array.all_eq_true, -Y3, -Y4, and_assoc, Y5, Tryz.f119, j6, j5, j4, j0, hlt, hlt', txt_get, txt_getE, hx, hxe, h1, h1', h2, h2', w1, w2, w3, w4, i_succ (i := i) (by omega)]
      exact ⟨r.length - (i + 1), by omega, i + 1, by omega, rfl, digs_take hx hI ⟨by omega, by omega⟩, by omega, by rw [hnx]; omega⟩
    · obtain rfl : i = r.length := by omega
      rw [List.take_length] at hI j5
      have e : numT true r = (sgnV true (valF 0 r), true) := numT_good h0 (by omega) hZ hI
      have hlt2 : ¬ (r.length : Int) < r.length := by omega
      have hv := valF_17 hI (by omega)
      have w5 : IntKind.i64.wrap (-(valF 0 r : Int)) = -(valF 0 r : Int) := wrap_i64 (by omega) (by omega)
      rw [e]
      simp (maxSteps := 4000000) -dsimp [-Y1, -Array.all_eq_true, -Y3, -Y4, and_assoc, Y5, Tryz.f119, j6, j5, j4, j0, hlt2, sgnV, w5]

  have hN : numS s = numT false s := by unfold numS; rw [if_neg hneg]
  rw [hN]
  clear hN
  by_cases h0 : s = []
  · have e : numT false s = (0, false) := numT_bad (Or.inl h0)
    rw [e]
    subst h0
    simp (maxSteps := 4000000) -dsimp [-Y1, -Array.all_eq_true, -Y3, -Y4, and_assoc, Y5, Tryz.f119]
  have hl0 : ¬ s.length = 0 := fun e => h0 (List.eq_nil_of_length_eq_zero e)
  have hl0' : ¬ (s.length : Int) = 0 := by omega
  have hp0 : 0 < s.length := by omega
  have hp0' : (0 : Int) < s.length := by omega
  obtain ⟨z, hz⟩ : ∃ z, s[0]? = some z := ⟨s[0], by simp [hp0]⟩
  have hze : ∀ (h : 0 < s.length), s[0]'h = z := fun h => (List.getElem?_eq_some_iff.1 hz).2
  have hzh : s.headD 0 = z := by cases s with | nil => cases hz | cons a l => simpa using hz
  have hz45 : ¬ (z.toNat : Int) = 45 := fun e => hneg (by rw [hzh]; exact UInt8.toNat_inj.1 (by show z.toNat = 45; omega))
  have hz45b : ¬ z = 45 := fun e => hneg (by rw [hzh]; exact e)
  by_cases h17 : 17 < s.length
  · have e : numT false s = (0, false) := numT_bad (Or.inr (Or.inl h17))
    have h17' : (17 : Int) < s.length := by omega
    rw [e]
    simp (maxSteps := 4000000) -dsimp [-Y1, -Array.all_eq_true, -Y3, -Y4, and_assoc, Y5, Tryz.f119, h0, hl0, hl0', hp0, hp0', h17, h17', txt_get, txt_getE, hz, hze, hz45]
  have h17' : ¬ (17 : Int) < s.length := by omega
  by_cases hZ : s.headD 0 = 48 ∧ (1 < s.length ∨ false = true)
  · have e : numT false s = (0, false) := numT_bad (Or.inr (Or.inr (Or.inl hZ)))
    rw [e]
    obtain ⟨h48, hq⟩ := hZ
    rw [hzh] at h48
    subst h48
    have hl2 : (1 : Int) < s.length := by
      rcases hq with hq | hq
      · omega
      · cases hq
    simp (maxSteps := 4000000) -dsimp [-Y1, -Array.all_eq_true, -Y3, -Y4, and_assoc, Y5, Tryz.f119, h0, hl0, hl0', hp0, hp0', h17, h17', txt_get, txt_getE, hz, hze, hl2]
  by_cases h48 : z = 48
  · subst h48
    have hl2 : ¬ (1 : Int) < s.length := fun e => hZ ⟨hzh, Or.inl (by omega)⟩
    simp (maxSteps := 4000000) -dsimp [-Y1, -Array.all_eq_true, -Y3, -Y4, and_assoc, Y5, Tryz.f119, h0, hl0, hl0', hp0, hp0', h17, h17', txt_get, txt_getE, hz, hze, hl2]
    refine loop_inv (σ := ⟨[], []⟩) hmx (by kernel_rfl) (fun q cx tm mem => cx = ⟨w, [], w, []⟩ ∧ mem = [] ∧ ∃ i : Nat, i ≤ s.length ∧ q = s.length - i ∧ Digs (s.take i) ∧ Sx.look tm 6 = .v (.int .i64 i) ∧ Sx.look tm 5 = .v (.int .i64 (valF 0 (s.take i) : Nat)) ∧ Sx.look tm 4 = .v (.bool false) ∧ Sx.look tm 0 = .v (.string (txt s)))
      s.length ⟨rfl, rfl, 0, by omega, rfl, by intro c hc; simp at hc, by simp [Sx.look], by simp [Sx.look, valF], by simp [Sx.look], by simp [Sx.look]⟩ ?_
    rintro q cx tm mem ⟨rfl, rfl, i, hi, rfl, hI, j6, j5, j4, j0⟩
    refine ⟨200, ?_⟩
    by_cases hlt : i < s.length
    · have hlt' : (i : Int) < s.length := by omega
      obtain ⟨x, hx⟩ : ∃ x, s[i]? = some x := ⟨s[i], by simp [hlt]⟩
      have hxe : ∀ (h : i < s.length), s[i]'h = x := fun h => (List.getElem?_eq_some_iff.1 hx).2
      have hmx : x ∈ s := List.mem_of_getElem? hx
      by_cases h1 : x.toNat < 48
      · have e : numT false s = (0, false) := numT_bad (Or.inr (Or.inr (Or.inr fun hd => by have := hd x hmx; omega)))
        have h1' : (x.toNat : Int) < 48 := by omega
        rw [e]
        simp (maxSteps := 4000000) -dsimp [-Y1, -Array.all_eq_true, -Y3, -Y4, and_assoc, Y5, Tryz.f119, j6, j5, j4, j0, hlt, hlt', txt_get, txt_getE, hx, hxe, h1, h1']
      by_cases h2 : 57 < x.toNat
      · have e : numT false s = (0, false) := numT_bad (Or.inr (Or.inr (Or.inr fun hd => by have := hd x hmx; omega)))
        have h1' : ¬ (x.toNat : Int) < 48 := by omega
        have h2' : (57 : Int) < x.toNat := by omega
        rw [e]
        simp (maxSteps := 4000000) -dsimp [-Y1, -Array.all_eq_true, -Y3, -Y4, and_assoc, Y5, Tryz.f119, j6, j5, j4, j0, hlt, hlt', txt_get, txt_getE, hx, hxe, h1, h1', h2, h2']
      have h1' : ¬ (x.toNat : Int) < 48 := by omega
      have h2' : ¬ (57 : Int) < x.toNat := by omega
      have hv := valF_17 hI (by rw [List.length_take]; omega)
      have hnx := valF_take hx
      generalize valF 0 (s.take i) = n at *
      have w1 : IntKind.u8.wrap ((x.toNat : Int) - 48) = x.toNat - 48 := wrap_u8 (by omega) (by omega)
      have w2 : IntKind.i64.wrap ((x.toNat : Int) - 48) = x.toNat - 48 := wrap_i64 (by omega) (by omega)
      have w3 : IntKind.i64.wrap ((n : Int) * 10) = n * 10 := wrap_i64 (by omega) (by omega)
      have w4 : IntKind.i64.wrap ((n : Int) * 10 + (x.toNat - 48)) = n * 10 + (x.toNat - 48) := wrap_i64 (by omega) (by omega)
      simp (maxSteps := 4000000) -dsimp [-Y1, -Array.all_eq_true, -Y3, -Y4, and_assoc, Y5, Tryz.f119, j6, j5, j4, j0, hlt, hlt', txt_get, txt_getE, hx, hxe, h1, h1', h2, h2', w1, w2, w3, w4, i_succ (i := i) (by omega)]
      exact ⟨s.length - (i + 1), by omega, i + 1, by omega, rfl, digs_take hx hI ⟨by omega, by omega⟩, by omega, by rw [hnx]; omega⟩
    · obtain rfl : i = s.length := by omega
      rw [List.take_length] at hI j5
      have e : numT false s = (sgnV false (valF 0 s), true) := numT_good h0 (by omega) hZ hI
      have hlt2 : ¬ (s.length : Int) < s.length := by omega
      have hv := valF_17 hI (by omega)
      have w5 : IntKind.i64.wrap (-(valF 0 s : Int)) = -(valF 0 s : Int) := wrap_i64 (by omega) (by omega)
      rw [e]
      simp (maxSteps := 4000000) -dsimp [-Y1, -Array.all_eq_true, -Y3, -Y4, and_assoc, Y5, Tryz.f119, j6, j5, j4, j0, hlt2, sgnV, w5]
  have hZ' : ¬ (z.toNat : Int) = 48 := fun e => h48 (UInt8.toNat_inj.1 (by show z.toNat = 48; omega))
  simp (maxSteps := 4000000) -dsimp [-Y1, -Array.all_eq_true, -Y3, -Y4, and_assoc, Y5, Tryz.f119, h0, hl0, hl0', hp0, hp0', h17, h17', txt_get, txt_getE, hz, hze, hZ', h48, hz45, hz45b]

  refine loop_inv (σ := ⟨[], []⟩) hmx (by kernel_rfl) (fun q cx tm mem => cx = ⟨w, [], w, []⟩ ∧ mem = [] ∧ ∃ i : Nat, i ≤ s.length ∧ q = s.length - i ∧ Digs (s.take i) ∧ Sx.look tm 6 = .v (.int .i64 i) ∧ Sx.look tm 5 = .v (.int .i64 (valF 0 (s.take i) : Nat)) ∧ Sx.look tm 4 = .v (.bool false) ∧ Sx.look tm 0 = .v (.string (txt s)))
    s.length ⟨rfl, rfl, 0, by omega, rfl, by intro c hc; simp at hc, by simp [Sx.look], by simp [Sx.look, valF], by simp [Sx.look, hz45], by simp [Sx.look]⟩ ?_
  rintro q cx tm mem ⟨rfl, rfl, i, hi, rfl, hI, j6, j5, j4, j0⟩
  refine ⟨200, ?_⟩
  by_cases hlt : i < s.length
  · have hlt' : (i : Int) < s.length := by omega
    obtain ⟨x, hx⟩ : ∃ x, s[i]? = some x := ⟨s[i], by simp [hlt]⟩
    have hxe : ∀ (h : i < s.length), s[i]'h = x := fun h => (List.getElem?_eq_some_iff.1 hx).2
    have hmx : x ∈ s := List.mem_of_getElem? hx
    by_cases h1 : x.toNat < 48
    · have e : numT false s = (0, false) := numT_bad (Or.inr (Or.inr (Or.inr fun hd => by have := hd x hmx; omega)))
      have h1' : (x.toNat : Int) < 48 := by omega
      rw [e]
      simp (maxSteps := 4000000) -dsimp [-Y1, -Array.all_eq_true, -Y3, -Y4, and_assoc, Y5, Tryz.f119, j6, j5, j4, j0, hlt, hlt', txt_get, txt_getE, hx, hxe, h1, h1']
    by_cases h2 : 57 < x.toNat
    · have e : numT false s = (0, false) := numT_bad (Or.inr (Or.inr (Or.inr fun hd => by have := hd x hmx; omega)))
      have h1' : ¬ (x.toNat : Int) < 48 := by omega
      have h2' : (57 : Int) < x.toNat := by omega
      rw [e]
      simp (maxSteps := 4000000) -dsimp [-Y1, -Array.all_eq_true, -Y3, -Y4, and_assoc, Y5, Tryz.f119, j6, j5, j4, j0, hlt, hlt', txt_get, txt_getE, hx, hxe, h1, h1', h2, h2']
    have h1' : ¬ (x.toNat : Int) < 48 := by omega
    have h2' : ¬ (57 : Int) < x.toNat := by omega
    have hv := valF_17 hI (by rw [List.length_take]; omega)
    have hnx := valF_take hx
    generalize valF 0 (s.take i) = n at *
    have w1 : IntKind.u8.wrap ((x.toNat : Int) - 48) = x.toNat - 48 := wrap_u8 (by omega) (by omega)
    have w2 : IntKind.i64.wrap ((x.toNat : Int) - 48) = x.toNat - 48 := wrap_i64 (by omega) (by omega)
    have w3 : IntKind.i64.wrap ((n : Int) * 10) = n * 10 := wrap_i64 (by omega) (by omega)
    have w4 : IntKind.i64.wrap ((n : Int) * 10 + (x.toNat - 48)) = n * 10 + (x.toNat - 48) := wrap_i64 (by omega) (by omega)
    simp (maxSteps := 4000000) -dsimp [-Y1, -Array.all_eq_true, -Y3, -Y4, and_assoc, Y5, Tryz.f119, j6, j5, j4, j0, hlt, hlt', txt_get, txt_getE, hx, hxe, h1, h1', h2, h2', w1, w2, w3, w4, i_succ (i := i) (by omega)]
    exact ⟨s.length - (i + 1), by omega, i + 1, by omega, rfl, digs_take hx hI ⟨by omega, by omega⟩, by omega, by rw [hnx]; omega⟩
  · obtain rfl : i = s.length := by omega
    rw [List.take_length] at hI j5
    have e : numT false s = (sgnV false (valF 0 s), true) := numT_good h0 (by omega) hZ hI
    have hlt2 : ¬ (s.length : Int) < s.length := by omega
    have hv := valF_17 hI (by omega)
    have w5 : IntKind.i64.wrap (-(valF 0 s : Int)) = -(valF 0 s : Int) := wrap_i64 (by omega) (by omega)
    rw [e]
    simp (maxSteps := 4000000) -dsimp [-Y1, -Array.all_eq_true, -Y3, -Y4, and_assoc, Y5, Tryz.f119, j6, j5, j4, j0, hlt2, sgnV, w5]
def sNumC : Con Tryz.prog := Con.pure 119 Tryz.call119 (fun (s : ((Str))) => [.string (txt s)]) (fun (s : ((Str))) => s.length ≤ 2000000) (fun (s : ((Str))) => .tuple #[.int .i64 (numS s).1, .bool (numS s).2]) fun s w hp => sNumC_c s hp w
end Go.Proofs.YtclbanhoiaieaaaGreatDoor
