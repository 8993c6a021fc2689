/-
  Contracts: texts of numbers and of operands, by the program; texts joined.
-/
import Derived.Test.YtclbanhoiaieaaaGreatDoorSbvc
import Derived.Test.YtclbanhoiaieaaaGreatDoorTgvc
import Derived.Test.YtclbanhoiaieaaaGreatDoorAvc
import Derived.Lib.Join
set_option linter.unusedVariables false
set_option linter.unusedSimpArgs false
set_option maxRecDepth 100000
set_option maxHeartbeats 4000000
namespace Go.Sx
open Go

theorem join_inter (c : UInt8) : ∀ ws : List Str, List.intercalate [c] ws = joinL c ws
  | [] => rfl
  | [w] => by simp [List.intercalate, joinL]
  | w :: x :: r => by
    have := join_inter c (x :: r)
    rw [joinL_cons c w (by simp), ← this]
    simp [List.intercalate, List.intersperse]
theorem lib_join (c : UInt8) (ws : List Str) : Lib.join ((ws.map txt).map (·.data.toList)) (txt [c]).data.toList = joinL c ws := by
  unfold Lib.join
  rw [List.map_map]
  have : (ws.map ((fun s : ByteArray => s.data.toList) ∘ txt)) = ws := by
    conv => rhs; rw [← List.map_id ws]
    rfl
  rw [this]
  exact join_inter c ws
theorem realL_fields (x : Nat) (hx : x < 18446744073709551616) : realL x = (if x / 4503599627370496 % 2048 = 2047 then (if x % 4503599627370496 = 0 then (if x / 9223372036854775808 = 1 then [45] else []) ++ [105, 110, 102] else [110, 97, 110])
    else if x / 4503599627370496 % 2048 = 0 ∧ x % 4503599627370496 = 0 then (if x / 9223372036854775808 = 1 then [45] else []) ++ [48]
    else (if x / 9223372036854775808 = 1 then [45] else []) ++ plainL (if x / 4503599627370496 % 2048 = 0 then x % 4503599627370496 else x % 4503599627370496 + 4503599627370496) ((if x / 4503599627370496 % 2048 = 0 then 1 else (x / 4503599627370496 % 2048 : Nat)) - 1075)) := by
  obtain ⟨c1, c2, c3, c4⟩ := consts
  have hs : ((x / 9223372036854775808 % 2 == 1) = true) = (x / 9223372036854775808 = 1) := by
    simp only [beq_iff_eq, eq_iff_iff]; omega
  unfold realL Ieee.Format.read
  simp only [c1, c2, c3, c4]
  generalize hq : (x / 9223372036854775808 % 2 == 1) = q at hs
  have hsg : ∀ l : Str, (if q = true then 45 :: l else l) = (if x / 9223372036854775808 = 1 then [45] else []) ++ l := fun l => by
    by_cases h : x / 9223372036854775808 = 1
    · rw [if_pos h, if_pos (hs.symm ▸ h : q = true)]; rfl
    · rw [if_neg h, if_neg (fun hq => h (hs ▸ hq))]; rfl
  by_cases h1 : x % 9223372036854775808 < 4503599627370496
  · rw [if_pos h1]
    have e0 : x / 4503599627370496 % 2048 = 0 := by omega
    rw [if_neg (by omega)]
    simp only [e0, true_and, if_true]
    have em : x % 9223372036854775808 = x % 4503599627370496 := by omega
    rw [em]
    by_cases hz : x % 4503599627370496 = 0
    · rw [if_pos hz, if_pos hz]
      exact (hsg [48])
    · rw [if_neg hz, if_neg hz]
      exact hsg _
  · rw [if_neg h1]
    by_cases h2 : x % 9223372036854775808 < 9218868437227405312
    · rw [if_pos h2]
      have e0 : ¬ x / 4503599627370496 % 2048 = 2047 := by omega
      have e1 : ¬ x / 4503599627370496 % 2048 = 0 := by omega
      rw [if_neg e0, if_neg (fun h => e1 h.1), if_neg e1, if_neg e1]
      simp only
      rw [if_neg (by omega)]
      have em : 4503599627370496 + x % 9223372036854775808 % 4503599627370496 = x % 4503599627370496 + 4503599627370496 := by omega
      have ei : (-1074 : Int) + ((x % 9223372036854775808 / 4503599627370496 - 1 : Nat) : Int) = ((x / 4503599627370496 % 2048 : Nat) : Int) - 1075 := by omega
      rw [em, ei]
      exact hsg _
    · rw [if_neg h2]
      have e0 : x / 4503599627370496 % 2048 = 2047 := by omega
      rw [if_pos e0]
      by_cases h3 : x % 4503599627370496 = 0
      · rw [if_pos (by omega), if_pos h3]
        exact hsg [105, 110, 102]
      · rw [if_neg (by omega), if_neg h3]
end Go.Sx
namespace Go.Proofs.YtclbanhoiaieaaaGreatDoor
open Go Go.Sx
open List renaming all_eq_true → Y1, zipIdx → Y5
open Bool renaming exists_bool → Y3, forall_bool → Y4
attribute [local simp] Sx.vcsE1 Sx.vcsE2 Sx.vcsE3 Sx.vcsE4 Sx.vcsE5 Sx.vcsE6 Sx.vcsE7 Sx.vcsE8 Sx.vcsE9 Sx.vcsE10 Sx.vcsE11 Sx.vcsE12 Sx.vcsE13 Sx.vcsE14 Sx.vcsE15 Sx.vcsE16 Sx.vcsE17 Sx.vcsE18 Sx.vcsE19 Sx.get Sx.look Sx.put Sx.pureFn Sx.findOrd Sx.unF Sx.dstOk Sx.isFloatT Sx.endVC Sx.resFn Sx.packC Sx.newFn Sx.storeFn Sx.buildFn Sx.known Sx.aggT Sx.cellsC Sx.findCon Sx.allV Sx.partsV Sx.partsC Sx.fillL Sx.exitTo Sx.fAr Sx.eqFn Sx.eqFieldsFn Sx.eqElemsFn Sx.partFn Sx.sliceFn Sx.boundFn Sx.AppV Sx.CopyV Sx.MakeSliceV Sx.NewsV Sx.GrowV Sx.TextV Sx.bytesL Sx.notInt Sx.typeAt Sx.argAt Sx.den Go.undef Go.Value.cells Go.Value.oneCell' Sx.Con.pure Sx.Con.some Sx.Con.read Sx.Con.make Sx.Con.ext Sx.Con.rel Sx.Con.extS Sx.Con.draw Sx.Con.step Sx.C.one Sx.Draws.steps

theorem iRealTextC_c (x : Nat) (w : World) (hpre : TP (factF ⟨w, [], w, []⟩) ∧ x < 18446744073709551616) : Calls Tryz.prog 66 #[.float .f64 x] w fun e w' => e = .returned (.string (txt (realL x))) ∧ RowKit.Below w.heap.size w w' := by
  refine (plain_of_vcs ⟨[bitsC, fmtUintC, itoaC], []⟩ hmx Tryz.func66 rfl (by kernel_rfl) (args := [.float .f64 x]) (by simp [Tryz.ntmps66]) w (· = .string (txt (realL x))) 400 ?_).mono fun e w' ⟨v, h1, h2, h3⟩ => ⟨h2 ▸ h1, h3⟩
  obtain ⟨ht, hx⟩ := hpre
  rw [realL_fields x hx]
  have hE : IntKind.i64.wrap (IntKind.u64.wrap ↑(((x : Int).fdiv (2 ^ min 52 IntKind.u64.bits) % 2 ^ IntKind.u64.bits).toNat &&& 2047 % 2 ^ IntKind.u64.bits)) = ((x / 4503599627370496 % 2048 : Nat) : Int) := by
    have e1 : ((x : Int).fdiv (2 ^ min 52 IntKind.u64.bits) % 2 ^ IntKind.u64.bits).toNat = x / 4503599627370496 := by
      have e0 : (2 : Int) ^ min 52 IntKind.u64.bits = 4503599627370496 := by decide
      have e2 : (2 : Int) ^ IntKind.u64.bits = 18446744073709551616 := by decide
      rw [e0, e2, Int.fdiv_eq_ediv_of_nonneg _ (by omega)]; omega
    have e3 : (2047 : Nat) % 2 ^ IntKind.u64.bits = 2 ^ 11 - 1 := by decide
    rw [e1, e3, Nat.and_two_pow_sub_one_eq_mod, wrap_u64 (by omega) (by omega), wrap_i64 (by omega) (by omega)]
  have hF : IntKind.u64.wrap ↑(x % 2 ^ IntKind.u64.bits &&& 4503599627370495 % 2 ^ IntKind.u64.bits) = ((x % 4503599627370496 : Nat) : Int) := by
    have e3 : (4503599627370495 : Nat) % 2 ^ IntKind.u64.bits = 2 ^ 52 - 1 := by decide
    have e4 : x % 2 ^ IntKind.u64.bits = x := by
      have e2 : 2 ^ IntKind.u64.bits = 18446744073709551616 := by decide
      rw [e2]; omega
    rw [e4, e3, Nat.and_two_pow_sub_one_eq_mod, wrap_u64 (by omega) (by omega)]
  have hS : (x : Int).fdiv (2 ^ min 63 IntKind.u64.bits) = ((x / 9223372036854775808 : Nat) : Int) := by
    have e0 : (2 : Int) ^ min 63 IntKind.u64.bits = 9223372036854775808 := by decide
    rw [e0, Int.fdiv_eq_ediv_of_nonneg _ (by omega)]; omega
  have hOr : ∀ f : Nat, f < 4503599627370496 → IntKind.u64.wrap ↑(f % 2 ^ IntKind.u64.bits ||| 4503599627370496 % 2 ^ IntKind.u64.bits) = ((f + 4503599627370496 : Nat) : Int) := fun f hf => by
    have e2 : 2 ^ IntKind.u64.bits = 18446744073709551616 := by decide
    have e3 : f ||| 4503599627370496 = f + 4503599627370496 := by
      have := Nat.two_pow_add_eq_or_of_lt (i := 52) (b := f) hf 1
      rw [Nat.or_comm, Nat.add_comm]
      simpa using this.symm
    rw [e2, Nat.mod_eq_of_lt (by omega), Nat.mod_eq_of_lt (by decide), e3, wrap_u64 (by omega) (by omega)]
  obtain ⟨e, he⟩ : ∃ e, e = x / 4503599627370496 % 2048 := ⟨_, rfl⟩
  obtain ⟨f, hf⟩ : ∃ f, f = x % 4503599627370496 := ⟨_, rfl⟩
  obtain ⟨s, hs⟩ : ∃ s, s = x / 9223372036854775808 := ⟨_, rfl⟩
  rw [← he] at hE
  rw [← hf] at hF
  rw [← hs] at hS
  rw [← he, ← hf, ← hs]
  have he1 : e < 2048 := by omega
  have hf1 : f < 4503599627370496 := by omega
  have hs1 : s < 2 := by omega
  have hOr2 : IntKind.u64.wrap ↑(((f : Int) % 2 ^ IntKind.u64.bits).toNat ||| 4503599627370496 % 2 ^ IntKind.u64.bits) = (f : Int) + 4503599627370496 := by
    have e2 : (2 : Int) ^ IntKind.u64.bits = 18446744073709551616 := by decide
    have e4 : ((f : Int) % 2 ^ IntKind.u64.bits).toNat = f % 2 ^ IntKind.u64.bits := by
      have e5 : 2 ^ IntKind.u64.bits = 18446744073709551616 := by decide
      rw [e2, e5]; omega
    rw [e4, hOr f hf1]; omega
  have hOr := hOr f hf1
  by_cases c1 : e = 2047
  · have g1 : (e : Int) = 2047 := by omega
    by_cases c2 : f = 0
    · have g2 : (f : Int) = 0 := by omega
      by_cases s1 : s = 1
      · have g3 : (s : Int) = 1 := by omega
        simp (maxSteps := 4000000) -dsimp [-Y1, -Array.all_eq_true, -Y3, -Y4, and_assoc, Y5, Tryz.f66, bitsC, fmtUintC, itoaC, hE, hF, hS, g1, g2, g3, c1, c2, s1, txt_eta]
      · have g3 : ¬ (s : Int) = 1 := by omega
        simp (maxSteps := 4000000) -dsimp [-Y1, -Array.all_eq_true, -Y3, -Y4, and_assoc, Y5, Tryz.f66, bitsC, fmtUintC, itoaC, hE, hF, hS, g1, g2, g3, c1, c2, s1, txt_eta]
    · have g2 : ¬ (f : Int) = 0 := by omega
      by_cases s1 : s = 1
      · have g3 : (s : Int) = 1 := by omega
        simp (maxSteps := 4000000) -dsimp [-Y1, -Array.all_eq_true, -Y3, -Y4, and_assoc, Y5, Tryz.f66, bitsC, fmtUintC, itoaC, hE, hF, hS, g1, g2, g3, c1, c2, s1, txt_eta]
      · have g3 : ¬ (s : Int) = 1 := by omega
        simp (maxSteps := 4000000) -dsimp [-Y1, -Array.all_eq_true, -Y3, -Y4, and_assoc, Y5, Tryz.f66, bitsC, fmtUintC, itoaC, hE, hF, hS, g1, g2, g3, c1, c2, s1, txt_eta]
  have g1 : ¬ (e : Int) = 2047 := by omega
  by_cases c3 : e = 0 ∧ f = 0
  · have g2 : (e : Int) = 0 := by omega
    have g4 : (f : Int) = 0 := by omega
    by_cases s1 : s = 1
    · have g3 : (s : Int) = 1 := by omega
      simp (maxSteps := 4000000) -dsimp [-Y1, -Array.all_eq_true, -Y3, -Y4, and_assoc, Y5, Tryz.f66, bitsC, fmtUintC, itoaC, hE, hF, hS, g1, g2, g3, g4, c1, c3, s1, txt_eta]
    · have g3 : ¬ (s : Int) = 1 := by omega
      simp (maxSteps := 4000000) -dsimp [-Y1, -Array.all_eq_true, -Y3, -Y4, and_assoc, Y5, Tryz.f66, bitsC, fmtUintC, itoaC, hE, hF, hS, g1, g2, g3, g4, c1, c3, s1, txt_eta]
  rw [if_neg c1, if_neg c3]
  obtain ⟨m, i, hm, hi, hm0, hm1, hi0, hi1, hcase⟩ : ∃ (m : Nat) (i : Int), m = (if e = 0 then f else f + 4503599627370496) ∧ i = (if e = 0 then 1 else (e : Nat)) - 1075 ∧ m ≠ 0 ∧ m < 9007199254740992 ∧ -1074 ≤ i ∧ i ≤ 972 ∧
      ((e = 0 ∧ ¬ f = 0 ∧ m = f ∧ i = -1074) ∨ (¬ e = 0 ∧ True ∧ m = f + 4503599627370496 ∧ i = e - 1075)) := by
    by_cases e0 : e = 0
    · exact ⟨f, -1074, by rw [if_pos e0], by rw [if_pos e0]; rfl, by omega, by omega, by omega, by omega, Or.inl ⟨e0, by omega, rfl, rfl⟩⟩
    · exact ⟨f + 4503599627370496, e - 1075, by rw [if_neg e0], by rw [if_neg e0], by omega, by omega, by omega, by omega, Or.inr ⟨e0, trivial, rfl, rfl⟩⟩
  rw [← hm, ← hi]
  have hw0 : IntKind.i64.wrap (-1074) = -1074 := by decide
  have hw1 : IntKind.i64.wrap ((e : Int) - 1075) = e - 1075 := wrap_i64 (by omega) (by omega)
  obtain ⟨sg, hsg⟩ : ∃ sg : Str, sg = (if s = 1 then [45] else []) := ⟨_, rfl⟩
  have hsl : sg.length ≤ 1 := by rw [hsg]; split <;> simp
  rw [← hsg]
  rcases hcase with ⟨e0, f0, hmf, hie⟩ | ⟨e0, f0, hmf, hie⟩ <;> by_cases s1 : s = 1
  all_goals
    first | rw [if_pos s1] at hsg | rw [if_neg s1] at hsg
    have g2 : ((e : Int) = 0) = (e = 0) := by simp
    have g4 : ((f : Int) = 0) = (f = 0) := by simp
    have g3 : ((s : Int) = 1) = (s = 1) := by simp; omega
    simp (maxSteps := 4000000) -dsimp [-Y1, -Array.all_eq_true, -Y3, -Y4, and_assoc, Y5, Tryz.f66, bitsC, fmtUintC, itoaC, hE, hF, hS, hOr, hOr2, g1, g2, g3, g4, c1, c3, e0, f0, s1, hw0, hw1, txt_eta]
    refine loop_inv (σ := ⟨[bitsC, fmtUintC, itoaC], []⟩) hmx (by kernel_rfl) (fun q cx tm mem => Le ⟨w, [], w, []⟩ cx ∧ mem = [] ∧ ∃ (n : Nat) (e' : Int), q = n ∧ Od m i n e' i ∧ Sx.look tm 6 = .v (.int .u64 n) ∧ Sx.look tm 5 = .v (.int .i64 e') ∧ Sx.look tm 4 = .v (.string (txt sg)))
      m ⟨Le.refl _, rfl, m, i, rfl, ⟨hm0, by omega, by rw [Int.sub_self]; simpa using hm1, 0, 0, rfl, by simp⟩, by simp [Sx.look, hmf, hOr2], by simp [Sx.look, hie], by simp [Sx.look, hsg, txt_eta]⟩ ?_
    rintro q cx tm mem ⟨hle, rfl, n, e', hq, ho, j6, j5, j4⟩
    refine ⟨300, ?_⟩
    obtain ⟨b1, b2⟩ := ho.bd
    have b3 := ho.ge
    have b4 := ho.ne
    have hN : IntKind.u64.wrap ↑(n % 2 ^ IntKind.u64.bits &&& 1 % 2 ^ IntKind.u64.bits) = ((n % 2 : Nat) : Int) := by
      have e2 : 2 ^ IntKind.u64.bits = 18446744073709551616 := by decide
      have e3 : (1 : Nat) % 2 ^ IntKind.u64.bits = 2 ^ 1 - 1 := by decide
      rw [e3, Nat.and_two_pow_sub_one_eq_mod, e2, wrap_u64 (by omega) (by omega)]; omega
    have hH : (n : Int).fdiv (2 ^ min 1 IntKind.u64.bits) = ((n / 2 : Nat) : Int) := by
      have e4 : (2 : Int) ^ min 1 IntKind.u64.bits = 2 := by decide
      rw [e4, Int.fdiv_eq_ediv_of_nonneg _ (by omega)]; omega
    have t0 := fun (d : Nat) (mem : List Blk) (K : C → Prop) => fmtUintC_rw (u := n) (d := d) (cx := cx) (mem := mem) (K := K) ⟨(ht.mono hle.fact).mono (sub_now _ _), by omega⟩
    have t1 := fun (d : Nat) (mem : List Blk) (K : C → Prop) => itoaC_rw (n := e') (d := d) (cx := cx) (mem := mem) (K := K) ⟨(ht.mono hle.fact).mono (sub_now _ _), by omega, by omega⟩
    by_cases hev : n % 2 = 0
    · have h1 : ((n % 2 : Nat) : Int) = 0 := by omega
      have hw2 : IntKind.i64.wrap (e' + 1) = e' + 1 := wrap_i64 (by omega) (by omega)
      simp (maxSteps := 4000000) -dsimp [-Y1, -Array.all_eq_true, -Y3, -Y4, and_assoc, Y5, Tryz.f66, bitsC, fmtUintC, itoaC, j6, j5, j4, hN, hH, h1, hev, hw2]
      exact ⟨n / 2, by omega, hle, ho.step hev, by omega⟩
    · have h1 : ¬ (n : Int) % 2 = 0 := by omega
      obtain ⟨f1, f2⟩ := ho.fin hm0 (by omega)
      have l1 := decL_len n 19 (by omega)
      have l2 := decZ_len (n := e') (by omega)
      have e3 : sg ++ plainL m i = sg ++ (decL n ++ ([42, 50, 94] ++ decZ e')) := by unfold plainL; rw [← f1, ← f2]
      rw [e3]
      simp (maxSteps := 4000000) -dsimp [-Y1, -Array.all_eq_true, -Y3, -Y4, and_assoc, Y5, Tryz.f66, bitsC, fmtUintC, itoaC, j6, j5, j4, hN, hH, h1, hev, t0, t1, txt_eta]
      exact ⟨by omega, by omega, by omega, hle.w0, hle.g0⟩
def iRealTextC_S : Reads Tryz.prog 66 where
  ι := ((Nat))
  A := fun (x : ((Nat))) => [.float .f64 x]
  pre := fun (x : ((Nat))) (F : Facts) => TP F ∧ x < 18446744073709551616
  res := fun (x : ((Nat))) => .string (txt (realL x))
  mono := by
    intro i F G hs h
    first | exact h | exact h.mono hs | exact ⟨h.1.mono hs, h.2⟩ | exact ⟨h.1.mono hs, h.2.1.mono hs, h.2.2⟩ | exact ⟨h.1.mono hs, h.2.1.mono hs⟩ | exact ⟨h.1.mono hs, h.2.1.mono hs, h.2.2.1.mono hs, h.2.2.2⟩
  uniq := by
    rintro x x' F hA h h'
    simp at hA
    (try simp only [Int.natCast_inj] at hA)
    simp_all
  enter := Tryz.call66
  h := fun x w hp => iRealTextC_c x w (by rw [factF_init]; exact hp)
def iRealTextC : Con Tryz.prog := Con.read iRealTextC_S
theorem iRealTextC_rw {x : Nat} {d : Nat} {cx : Cx} {mem : List Blk} {K : C → Prop} (hpre : TP (nowF cx mem) ∧ x < 18446744073709551616) : ReadV d iRealTextC_S cx [.v (.float .f64 x)] mem K = K (.v (.string (txt (realL x)))) := iRealTextC_S.eq x rfl hpre
theorem letter_sub {k : Int} (h : 1 ≤ k ∧ k ≤ 10) : (letters.take (k - 1 + 1).toNat).drop (k - 1).toNat = [letterU k] := by
  have : k = 1 ∨ k = 2 ∨ k = 3 ∨ k = 4 ∨ k = 5 ∨ k = 6 ∨ k = 7 ∨ k = 8 ∨ k = 9 ∨ k = 10 := by omega
  rcases this with rfl | rfl | rfl | rfl | rfl | rfl | rfl | rfl | rfl | rfl <;> rfl
theorem devLetterC_c (k : Int) (w : World) : Calls Tryz.prog 151 #[.int .i64 k] w fun e w' => e = .returned (.string (txt (if 1 ≤ k ∧ k ≤ 10 then [letterU k] else []))) ∧ RowKit.Below w.heap.size w w' := by
  refine (plain_of_vcs ⟨[isDevC], []⟩ hmx Tryz.func151 rfl (by kernel_rfl) (args := [.int .i64 k]) (by simp [Tryz.ntmps151]) w (· = .string (txt (if 1 ≤ k ∧ k ≤ 10 then [letterU k] else []))) 400 ?_).mono fun e w' ⟨v, h1, h2, h3⟩ => ⟨h2 ▸ h1, h3⟩
  by_cases hk : 1 ≤ k ∧ k ≤ 10
  · rw [if_pos hk]
    have e1 : IntKind.i64.wrap (k - 1) = k - 1 := wrap_i64 (by omega) (by omega)
    have e2 : IntKind.i64.wrap (k - 1 + 1) = k - 1 + 1 := wrap_i64 (by omega) (by omega)
    have e3 := letter_sub hk
    have e4 : (⟨#[88, 89, 77, 83, 69, 71, 84, 67, 68, 82]⟩ : ByteArray) = txt letters := rfl
    have e5 : IntKind.i64.wrap k = k := wrap_i64 (by omega) (by omega)
    have e6 : (letters.take k.toNat).drop (k.toNat - 1) = [letterU k] := by
      have a1 : k.toNat = (k - 1 + 1).toNat := by omega
      have a2 : k.toNat - 1 = (k - 1).toNat := by omega
      rw [a2, a1]; exact e3
    have e7 : letters.length = 10 := rfl
    simp (maxSteps := 4000000) -dsimp [-Y1, -Array.all_eq_true, -Y3, -Y4, and_assoc, Y5, Tryz.f151, isDevC, hk, e1, e5, e4, e6, e7]
    first | omega | exact ⟨fun h => by omega, by omega, by omega⟩
  · rw [if_neg hk]
    simp (maxSteps := 4000000) -dsimp [-Y1, -Array.all_eq_true, -Y3, -Y4, and_assoc, Y5, Tryz.f151, isDevC, hk, txt_eta]
    intro h1 h2
    exact absurd ⟨h1, h2⟩ hk
def devLetterC : Con Tryz.prog := Con.pure 151 Tryz.call151 (fun (k : ((Int))) => [.int .i64 k]) (fun (k : ((Int))) => True) (fun (k : ((Int))) => .string (txt (if 1 ≤ k ∧ k ≤ 10 then [letterU k] else []))) fun k w _ => devLetterC_c k w
def TV (F : Facts) : Prop := RdL F (some ⟨1, 0, none⟩) (words4.map fun z => .string (txt z))
theorem TV.mono {F G : Facts} (h : TV F) (hs : Sub F G) : TV G := RdL.mono h hs
theorem decTextC_c (n : Int) (p : Nat) (w : World) (hpre : TP (factF ⟨w, [], w, []⟩) ∧ (-999999999 ≤ n ∧ n ≤ 999999999 ∧ p ≤ 6)) : Calls Tryz.prog 150 #[.int .i64 n, .int .i64 p] w fun e w' => e = .returned (.string (txt (decT n p))) ∧ RowKit.Below w.heap.size w w' := by
  refine (plain_of_vcs ⟨[itoaC], []⟩ hmx Tryz.func150 rfl (by kernel_rfl) (args := [.int .i64 n, .int .i64 p]) (by simp [Tryz.ntmps150]) w (· = .string (txt (decT n p))) 400 ?_).mono fun e w' ⟨v, h1, h2, h3⟩ => ⟨h2 ▸ h1, h3⟩
  obtain ⟨ht, h1, h2, h3⟩ := hpre
  have hw : IntKind.i64.wrap (-n) = -n := wrap_i64 (by omega) (by omega)
  obtain ⟨sg, hsg⟩ : ∃ sg : Str, sg = signS n := ⟨_, rfl⟩
  have hsl : sg.length ≤ 1 := by rw [hsg]; unfold signS; split <;> simp
  have hl9 := decL_len n.natAbs 8 (by omega)
  have hl1 := decL_len1 n.natAbs
  have hT : decT n p = sg ++ fracS p (padS p (decL n.natAbs)) := by rw [hsg]; rfl
  rw [hT]
  obtain ⟨v, hv, hvz, hvr⟩ : ∃ v : Int, v = (if n < 0 then -n else n) ∧ decZ v = decL n.natAbs ∧ 0 ≤ v ∧ v ≤ 999999999 := by
    refine ⟨_, rfl, ?_, ?_⟩
    · split
      · unfold decZ; rw [if_neg (by omega), show (-n).natAbs = n.natAbs by omega]
      · unfold decZ; rw [if_neg (by omega)]
    · split <;> omega
  have t0 := fun (d : Nat) (mem : List Blk) (K : C → Prop) => itoaC_rw (n := v) (d := d) (cx := ⟨w, [], w, []⟩) (mem := mem) (K := K) ⟨ht.mono (sub_now _ _), by omega, by omega⟩
  rw [hvz] at t0
  by_cases hn : n < 0
  all_goals
    first | (rw [if_pos hn] at hv; have es : sg = [45] := by rw [hsg]; unfold signS; rw [if_pos hn]) | (rw [if_neg hn] at hv; have es : sg = [] := by rw [hsg]; unfold signS; rw [if_neg hn])
    rw [hv] at t0
    simp (maxSteps := 4000000) -dsimp [-Y1, -Array.all_eq_true, -Y3, -Y4, and_assoc, Y5, Tryz.f150, itoaC, hn, hw, t0, txt_eta]
    refine loop_inv (σ := ⟨[itoaC], []⟩) hmx (by kernel_rfl) (fun q cx tm mem => cx = ⟨w, [], w, []⟩ ∧ mem = [] ∧ ∃ k : Nat, q = (p + 1 - (decL n.natAbs).length) - k ∧ k ≤ p + 1 - (decL n.natAbs).length ∧ Sx.look tm 6 = .v (.string (txt (List.replicate k 48 ++ decL n.natAbs))) ∧ Sx.look tm 5 = .v (.string (txt sg)) ∧ Sx.look tm 1 = .v (.int .i64 p))
      (p + 1 - (decL n.natAbs).length) ⟨rfl, rfl, 0, by omega, by omega, by simp [Sx.look], by simp [Sx.look, es], by simp [Sx.look]⟩ ?_
    rintro q cx tm mem ⟨rfl, rfl, k, hq, hk, j6, j5, j1⟩
    refine ⟨300, ?_⟩
    by_cases hlt : k < p + 1 - (decL n.natAbs).length
    · have h1 : (k : Int) + ((decL n.natAbs).length : Int) ≤ p := by omega
      simp (maxSteps := 4000000) -dsimp [-Y1, -Array.all_eq_true, -Y3, -Y4, and_assoc, Y5, Tryz.f150, itoaC, j6, j5, j1, h1, txt_eta]
      exact ⟨by omega, p + 1 - (decL n.natAbs).length - (k + 1), by omega, k + 1, by omega, by omega, by rw [List.replicate_succ]; rfl⟩
    · obtain rfl : k = p + 1 - (decL n.natAbs).length := by omega
      have e4 : List.replicate (p + 1 - (decL n.natAbs).length) 48 ++ decL n.natAbs = padS p (decL n.natAbs) := rfl
      rw [e4] at j6
      have hpl := padS_len p (decL n.natAbs)
      unfold fracS
      generalize padS p (decL n.natAbs) = l at *
      have h1 : ¬ (l.length : Int) ≤ p := by omega
      have hw3 : IntKind.i64.wrap ((l.length : Int) - p) = l.length - p := wrap_i64 (by omega) (by omega)
      have hn3 : ((l.length : Int) - (p : Int)).toNat = l.length - p := by omega
      simp (maxSteps := 4000000) -dsimp [-Y1, -Array.all_eq_true, -Y3, -Y4, and_assoc, Y5, Tryz.f150, itoaC, j6, j5, j1, h1, hw3, hn3, txt_eta]
      omega
def decTextC_S : Reads Tryz.prog 150 where
  ι := ((Int) × (Nat))
  A := fun (i : ((Int) × (Nat))) => match i with | (n, p) => [.int .i64 n, .int .i64 p]
  pre := fun (i : ((Int) × (Nat))) (F : Facts) => match i with | (n, p) => TP F ∧ (-999999999 ≤ n ∧ n ≤ 999999999 ∧ p ≤ 6)
  res := fun (i : ((Int) × (Nat))) => match i with | (n, p) => .string (txt (decT n p))
  mono := by
    intro i F G hs h
    first | exact h | exact h.mono hs | exact ⟨h.1.mono hs, h.2⟩ | exact ⟨h.1.mono hs, h.2.1.mono hs, h.2.2⟩ | exact ⟨h.1.mono hs, h.2.1.mono hs⟩ | exact ⟨h.1.mono hs, h.2.1.mono hs, h.2.2.1.mono hs, h.2.2.2⟩
  uniq := by
    rintro ⟨n, p⟩ ⟨n', p'⟩ F hA h h'
    simp at hA
    (try simp only [Int.natCast_inj] at hA)
    simp_all
  enter := Tryz.call150
  h := fun i w hp => decTextC_c i.1 i.2 w (by rw [factF_init]; exact hp)
def decTextC : Con Tryz.prog := Con.read decTextC_S
theorem decTextC_rw {n : Int} {p : Nat} {d : Nat} {cx : Cx} {mem : List Blk} {K : C → Prop} (hpre : TP (nowF cx mem) ∧ (-999999999 ≤ n ∧ n ≤ 999999999 ∧ p ≤ 6)) : ReadV d decTextC_S cx [.v (.int .i64 n), .v (.int .i64 p)] mem K = K (.v (.string (txt (decT n p)))) := decTextC_S.eq (n, p) rfl hpre
structure TT (F : Facts) : Prop where
  p : TP F
  v : TV F
theorem TT.mono {F G : Facts} (h : TT F) (hs : Sub F G) : TT G := ⟨h.p.mono hs, h.v.mono hs⟩
theorem word4_at {n : Int} (h : 0 ≤ n ∧ n ≤ 3) : (words4.map fun z => Value.string (txt z))[n.toNat]? = some (.string (txt (wordS n))) := by
  have : n = 0 ∨ n = 1 ∨ n = 2 ∨ n = 3 := by omega
  rcases this with rfl | rfl | rfl | rfl <;> rfl
theorem iDevTextC_c (k n p : Int) (w : World) (hpre : TT (factF ⟨w, [], w, []⟩)) : Calls Tryz.prog 62 #[.agg #[.int .i64 k, .int .i64 n, .int .i64 p]] w fun e w' => e = .returned (.string (txt (devL ⟨k, n, p⟩))) ∧ RowKit.Below w.heap.size w w' := by
  refine (plain_of_vcs ⟨[devOkC, itoaC, decTextC, devLetterC], []⟩ hmx Tryz.func62 rfl (by kernel_rfl) (args := [.agg #[.int .i64 k, .int .i64 n, .int .i64 p]]) (by simp [Tryz.ntmps62]) w (· = .string (txt (devL ⟨k, n, p⟩))) 400 ?_).mono fun e w' ⟨v, h1, h2, h3⟩ => ⟨h2 ▸ h1, h3⟩
  obtain ⟨ht, hv⟩ := hpre
  cases hok : devOk k n p
  · have e : devL ⟨k, n, p⟩ = [] := devL_bad hok
    rw [e]
    simp (maxSteps := 4000000) -dsimp [-Y1, -Array.all_eq_true, -Y3, -Y4, and_assoc, Y5, Tryz.f62, devOkC, itoaC, decTextC, devLetterC, hok, txt_eta]
  · have e : devL ⟨k, n, p⟩ = devT ⟨k, n, p⟩ := devL_ok hok
    have hc := dOk_cases (d := ⟨k, n, p⟩) hok
    rw [e]
    simp only at hc
    have hz := devSize_le k
    have hn63 : n.natAbs ≤ 1000000000 := by omega
    have t0 := fun (d : Nat) (mem : List Blk) (K : C → Prop) => itoaC_rw (n := n) (d := d) (cx := ⟨w, [], w, []⟩) (mem := mem) (K := K) ⟨ht.mono (sub_now _ _), by omega, by omega⟩
    by_cases h11 : k = 11
    · subst h11
      simp (maxSteps := 4000000) -dsimp [-Y1, -Array.all_eq_true, -Y3, -Y4, and_assoc, Y5, Tryz.f62, devOkC, itoaC, decTextC, devLetterC, hok, t0, txt_eta]
      rfl
    · by_cases h12 : k = 12
      · subst h12
        obtain ⟨p', rfl⟩ := Int.eq_ofNat_of_zero_le (show 0 ≤ p by omega)
        have t1 := fun (d : Nat) (mem : List Blk) (K : C → Prop) => decTextC_rw (n := n) (p := p') (d := d) (cx := ⟨w, [], w, []⟩) (mem := mem) (K := K) ⟨ht.mono (sub_now _ _), by omega, by omega, by omega⟩
        simp (maxSteps := 4000000) -dsimp [-Y1, -Array.all_eq_true, -Y3, -Y4, and_assoc, Y5, Tryz.f62, devOkC, itoaC, decTextC, devLetterC, hok, t1, txt_eta]
        rfl
      · by_cases h13 : k = 13
        · subst h13
          have h03 : 0 ≤ n ∧ n ≤ 3 := by omega
          have l0 := fun (d : Nat) (mem : List Blk) (K : Value → Prop) => RdL.ld (P := Tryz.prog) (d := d) (K := K) (RdL.mono hv (sub_now ⟨w, [], w, []⟩ mem)) (t := 9) (by kernel_rfl) (word4_at h03)
          simp only [padd_some, Nat.zero_add] at l0
          simp (maxSteps := 4000000) -dsimp [-Y1, -Array.all_eq_true, -Y3, -Y4, and_assoc, Y5, Tryz.f62, devOkC, itoaC, decTextC, devLetterC, hok, l0, txt_eta]
          exact ⟨by omega, by omega, rfl⟩
        · have hk : 1 ≤ k ∧ k ≤ 10 := by omega
          have hl := decZ_len (n := n) (by omega)
          have et : devT ⟨k, n, p⟩ = letterU k :: decZ n := by unfold devT; simp only; rw [if_neg h11, if_neg h12, if_neg h13]
          rw [et]
          simp (maxSteps := 4000000) -dsimp [-Y1, -Array.all_eq_true, -Y3, -Y4, and_assoc, Y5, Tryz.f62, devOkC, itoaC, decTextC, devLetterC, hok, h11, h12, h13, hk, t0, txt_eta]
          omega
def iDevTextC_S : Reads Tryz.prog 62 where
  ι := ((Int) × (Int) × (Int))
  A := fun (i : ((Int) × (Int) × (Int))) => match i with | (k, n, p) => [.agg #[.int .i64 k, .int .i64 n, .int .i64 p]]
  pre := fun (i : ((Int) × (Int) × (Int))) (F : Facts) => match i with | (k, n, p) => TT F
  res := fun (i : ((Int) × (Int) × (Int))) => match i with | (k, n, p) => .string (txt (devL ⟨k, n, p⟩))
  mono := by
    intro i F G hs h
    first | exact h | exact h.mono hs | exact ⟨h.1.mono hs, h.2⟩ | exact ⟨h.1.mono hs, h.2.1.mono hs, h.2.2⟩ | exact ⟨h.1.mono hs, h.2.1.mono hs⟩ | exact ⟨h.1.mono hs, h.2.1.mono hs, h.2.2.1.mono hs, h.2.2.2⟩
  uniq := by
    rintro ⟨k, n, p⟩ ⟨k', n', p'⟩ F hA h h'
    simp at hA
    (try simp only [Int.natCast_inj] at hA)
    simp_all
  enter := Tryz.call62
  h := fun i w hp => iDevTextC_c i.1 i.2.1 i.2.2 w (by rw [factF_init]; exact hp)
def iDevTextC : Con Tryz.prog := Con.read iDevTextC_S
theorem iDevTextC_rw {k n p : Int} {d : Nat} {cx : Cx} {mem : List Blk} {K : C → Prop} (hpre : TT (nowF cx mem)) : ReadV d iDevTextC_S cx [.v (.agg #[.int .i64 k, .int .i64 n, .int .i64 p])] mem K = K (.v (.string (txt (devL ⟨k, n, p⟩)))) := iDevTextC_S.eq (k, n, p) rfl hpre
def join_S : Reads Tryz.prog 68 where
  ι := Option Addr × Nat × List Str × UInt8
  A i := [.slice i.1 i.2.2.1.length i.2.1, .string (txt [i.2.2.2])]
  pre i F := RdL F i.1 (i.2.2.1.map fun z => .string (txt z)) ∧ (∀ a, i.1 = some a → a.spot = none) ∧ i.2.2.1.length ≤ i.2.1 ∧ i.2.2.1.length ≤ 140737488355328 ∧ (joinL i.2.2.2 i.2.2.1).length ≤ 140737488355328
  res i := .string (txt (joinL i.2.2.2 i.2.2.1))
  mono i F G hs h := ⟨h.1.mono hs, h.2⟩
  uniq := by
    rintro ⟨o, cap, ws, c⟩ ⟨o', cap', ws', c'⟩ F hA h h'
    simp only [List.cons.injEq, Value.slice.injEq, Value.string.injEq, txt_inj, and_true] at hA
    obtain ⟨⟨rfl, hl, rfl⟩, hc⟩ := hA
    have := h.1.uniq h'.1 (by simpa using hl)
    have e : ws = ws' := by
      have h2 := congrArg (List.map fun v => match v with | .string s => s.data.toList | _ => []) this
      simp only [List.map_map] at h2
      have h3 : ((fun v : Value => match v with | .string s => s.data.toList | _ => []) ∘ fun z : Str => Value.string (txt z)) = id := rfl
      rw [h3] at h2
      simpa using h2
    subst e
    have : c = c' := by simpa using hc
    subst this; rfl
  enter := Tryz.call68
  h := by
    rintro ⟨o, cap, ws, c⟩ w ⟨h1, h2, h3, h4, h5⟩
    simp only at h1 h2 h3 h4 h5 ⊢
    by_cases he : ws = []
    · subst he
      refine (Tryz.strings_Join_none o cap (txt [c]) w).mono ?_
      rintro e w' ⟨rfl, rfl⟩
      exact ⟨rfl, below_same⟩
    · obtain ⟨x, r, rfl⟩ : ∃ x r, ws = x :: r := by cases ws with
        | nil => exact absurd rfl he
        | cons x r => exact ⟨x, r, rfl⟩
      obtain ⟨a, rfl, ha⟩ := h1 0 _ rfl
      obtain ⟨bk, off, sp⟩ := a
      have hsp : sp = none := h2 _ rfl
      subst hsp
      have hb : bk < w.heap.size := by
        rw [addr_add] at ha
        exact block_lt_of_cell ha
      have key := Tryz.strings_Join bk off cap ((x :: r).map txt) (txt [c]) w (fun j y hj => by
        rw [List.getElem?_map] at hj
        cases hz : (x :: r)[j]? with
        | none => rw [hz] at hj; cases hj
        | some z =>
          rw [hz] at hj
          cases hj
          obtain ⟨a, ea, hc⟩ := h1 j (.string (txt z)) (by rw [List.getElem?_map, hz]; rfl)
          cases ea
          rw [addr_add] at hc
          exact hc) hb (by simpa using h4) (by simpa using h3) (by rw [lib_join]; exact h5)
      rw [lib_join, List.length_map] at key
      exact key
def joinC : Con Tryz.prog := Con.readW join_S
end Go.Proofs.YtclbanhoiaieaaaGreatDoor
