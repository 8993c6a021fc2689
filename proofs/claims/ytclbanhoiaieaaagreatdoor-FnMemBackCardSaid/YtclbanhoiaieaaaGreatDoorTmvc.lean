/-
  Contracts: a memory as text, by the program.
-/
import Derived.Test.YtclbanhoiaieaaaGreatDoorTivc
import Derived.Test.YtclbanhoiaieaaaGreatDoorTbvc
import Derived.Test.YtclbanhoiaieaaaGreatDoorAvc
set_option linter.unusedVariables false
set_option linter.unusedSimpArgs false
set_option maxRecDepth 100000
set_option maxHeartbeats 4000000
namespace Go.Sx
open Go

def preW (p : Nat → Bool) (g : Nat → MW) (i : Nat) : List MW := ((List.range i).filter p).map g
theorem preW_succ (p : Nat → Bool) (g : Nat → MW) (i : Nat) : preW p g (i + 1) = preW p g i ++ (if p i then [g i] else []) := by
  unfold preW
  rw [List.range_succ, List.filter_append, List.map_append]
  congr 1
  cases h : p i <;> simp [h]
theorem preW_len (p : Nat → Bool) (g : Nat → MW) (i : Nat) : (preW p g i).length ≤ i := by
  unfold preW
  rw [List.length_map]
  have := List.length_filter_le p (List.range i)
  simpa using this
def bitP (m : M) (k : Nat) (n : Nat) : Bool := memBit m k n
def bitsU (m : M) : Nat → List MW
  | 0 => []
  | k + 1 => bitsU m k ++ preW (bitP m (k + 1)) (.bit (k + 1 : Nat)) (devSize (k + 1 : Nat)).toNat
def WB (W : List MW) : List C := W.map fun z => .v (.string (txt z.text))
theorem WB_len (W : List MW) : (WB W).length = W.length := by simp [WB]
theorem WB_snoc (W : List MW) (z : MW) : WB (W ++ [z]) = WB W ++ [.v (.string (txt z.text))] := by simp [WB]
theorem bitsU_len (m : M) : ∀ k, (bitsU m k).length ≤ 64 * k
  | 0 => by simp [bitsU]
  | k + 1 => by
    have h1 := bitsU_len m k
    have h2 := preW_len (bitP m (k + 1)) (.bit (k + 1 : Nat)) (devSize (k + 1 : Nat)).toNat
    have h3 := devSize_le (k + 1 : Nat)
    rw [bitsU, List.length_append]; omega
def bW (m : M) (k n : Nat) : List MW := bitsU m k ++ preW (bitP m (k + 1)) (.bit (k + 1 : Nat)) n
theorem bW_zero (m : M) (k : Nat) : bW m k 0 = bitsU m k := by simp [bW, preW]
theorem bW_no {m : M} {k n : Nat} (h : bitP m (k + 1) n = false) : bW m k (n + 1) = bW m k n := by unfold bW; rw [preW_succ, h]; simp
theorem bW_yes {m : M} {k n : Nat} (h : bitP m (k + 1) n = true) : bW m k (n + 1) = bW m k n ++ [.bit ((k : Int) + 1) n] := by unfold bW; rw [preW_succ, h]; simp
theorem bW_full {m : M} {k N : Nat} (h : devSize ((k : Int) + 1) = N) : bW m k N = bitsU m (k + 1) := by
  have e : ((k + 1 : Nat) : Int) = (k : Int) + 1 := by omega
  unfold bW
  rw [bitsU, e, h, Int.toNat_natCast]
theorem bW_len (m : M) (k n : Nat) : (bW m k n).length ≤ 64 * k + n := by
  unfold bW
  rw [List.length_append]
  have := preW_len (bitP m (k + 1)) (.bit (k + 1 : Nat)) n
  have := bitsU_len m k
  omega
theorem WB_take (W : List MW) (pad : List C) : (WB W ++ pad).take W.length = WB W := by rw [← WB_len W, List.take_left]
theorem WB_full {W : List MW} {pad : List C} {cp : Nat} (h1 : pad.length = cp - W.length) (h2 : W.length ≤ cp) : (WB W ++ pad).length = cp * 1 := by rw [List.length_append, WB_len]; omega
theorem WB_push (W : List MW) (z : MW) (pad : List C) : WB W ++ .v (.string (txt z.text)) :: pad = WB (W ++ [z]) ++ pad := by rw [WB_snoc]; simp
def accW (B : List MW) (p : Nat → Bool) (g : Nat → MW) (i : Nat) : List MW := B ++ preW p g i
theorem accW_zero (B : List MW) (p : Nat → Bool) (g : Nat → MW) : accW B p g 0 = B := by simp [accW, preW]
theorem accW_no {B : List MW} {p : Nat → Bool} {g : Nat → MW} {i : Nat} (h : p i = false) : accW B p g (i + 1) = accW B p g i := by unfold accW; rw [preW_succ, h]; simp
theorem accW_yes {B : List MW} {p : Nat → Bool} {g : Nat → MW} {i : Nat} (h : p i = true) : accW B p g (i + 1) = accW B p g i ++ [g i] := by unfold accW; rw [preW_succ, h]; simp
theorem accW_len (B : List MW) (p : Nat → Bool) (g : Nat → MW) (i : Nat) : (accW B p g i).length ≤ B.length + i := by
  unfold accW
  rw [List.length_append]
  have := preW_len p g i
  omega
def tP (m : M) (i : Nat) : Bool := (m.T i).1 || decide (0 < (m.T i).2)
def tG (m : M) (i : Nat) : MW := .tim i (m.T i).1 (m.T i).2
def cP (m : M) (i : Nat) : Bool := (m.C i).1 || ((m.C i).2.1 || decide (0 < (m.C i).2.2))
def cG (m : M) (i : Nat) : MW := .cnt i (m.C i).1 (m.C i).2.1 (m.C i).2.2
def dP (m : M) (i : Nat) : Bool := decide (m.D i ≠ 0)
def dG (m : M) (i : Nat) : MW := .dat i (m.D i)
def rP (m : M) (i : Nat) : Bool := decide (m.R i ≠ 0)
def rG (m : M) (i : Nat) : MW := .real i (m.R i)
def A0 (m : M) : List MW := bitsU m 5
def A1 (m : M) : List MW := accW (A0 m) (tP m) (tG m) 16
def A2 (m : M) : List MW := accW (A1 m) (cP m) (cG m) 16
def A3 (m : M) : List MW := accW (A2 m) (dP m) (dG m) 32
def A4 (m : M) : List MW := accW (A3 m) (rP m) (rG m) 16
theorem A_len (m : M) : (A0 m).length ≤ 320 ∧ (A1 m).length ≤ 336 ∧ (A2 m).length ≤ 352 ∧ (A3 m).length ≤ 384 ∧ (A4 m).length ≤ 400 := by
  have h0 := bitsU_len m 5
  have h1 := accW_len (A0 m) (tP m) (tG m) 16
  have h2 := accW_len (A1 m) (cP m) (cG m) 16
  have h3 := accW_len (A2 m) (dP m) (dG m) 32
  have h4 := accW_len (A3 m) (rP m) (rG m) 16
  have e0 : (A0 m).length = (bitsU m 5).length := rfl
  have e1 : (A1 m).length = (accW (A0 m) (tP m) (tG m) 16).length := rfl
  have e2 : (A2 m).length = (accW (A1 m) (cP m) (cG m) 16).length := rfl
  have e3 : (A3 m).length = (accW (A2 m) (dP m) (dG m) 32).length := rfl
  have e4 : (A4 m).length = (accW (A3 m) (rP m) (rG m) 16).length := rfl
  omega
theorem memW_A (m : M) : memW m = A4 m ++ endW m := by
  unfold memW A4 A3 A2 A1 A0 accW
  simp only [bitsU, List.nil_append, List.append_assoc]
  rfl
theorem tL_at (f : Arr 16 (Bool × Int)) : ∀ k, k < 16 → (tL f).toArray.extract (k * 2) (k * 2 + 2) = #[.bool (f k).1, .int .u16 (f k).2] := by apply lt16 <;> kernel_rfl
theorem cL_at (f : Arr 16 (Bool × Bool × Int)) : ∀ k, k < 16 → (cL f).toArray.extract (k * 3) (k * 3 + 3) = #[.bool (f k).1, .bool (f k).2.1, .int .u16 (f k).2.2] := by apply lt16 <;> kernel_rfl
theorem dL_at (f : Arr 32 Int) : ∀ k, k < 32 → (dL f)[k]? = some (.int .i16 (f k)) := by apply lt32 <;> apply lt16 <;> kernel_rfl
theorem rL_at (f : Arr 16 Nat) : ∀ k, k < 16 → (rL f)[k]? = some (.float .f64 (f k)) := by apply lt16 <;> kernel_rfl
theorem text_bit {k n : Nat} (hk : 1 ≤ k ∧ k ≤ 5) (hn : (n : Int) < devSize k) : devL ⟨k, n, 0⟩ = (MW.bit k n).text := by
  have hok : dOk ⟨k, n, 0⟩ = true := by
    unfold dOk devOk
    refine decide_eq_true (Or.inl ?_)
    simp only
    exact ⟨by omega, by omega, by omega, hn, trivial⟩
  rw [devL_ok hok]
  unfold devT MW.text
  simp only
  rw [if_neg (by omega), if_neg (by omega), if_neg (by omega)]
  unfold decZ
  rw [if_neg (by omega), Int.natAbs_natCast]
theorem memW_short {m : M} (hm : MOk m) : ∀ z ∈ memW m, z.text.length ≤ 90 := by
  intro z hz
  have hb : ∀ k : Int, z ∈ bitsW m k → z.text.length ≤ 90 := fun k h => by
    unfold bitsW at h
    obtain ⟨n, hn, rfl⟩ := List.mem_map.1 h
    have hn2 : n < 64 := by
      have := (List.mem_filter.1 hn).1
      have h64 := devSize_le k
      simp at this; omega
    have := decL_len n 1 (by omega)
    unfold MW.text
    simp only [List.length_cons]; omega
  unfold memW at hz
  simp only [List.mem_append] at hz
  rcases hz with h | h | h | h | h | h | h | h | h | h
  · exact hb _ h
  · exact hb _ h
  · exact hb _ h
  · exact hb _ h
  · exact hb _ h
  · obtain ⟨i, hi, rfl⟩ := List.mem_map.1 h
    have hi2 : i < 16 := by have := (List.mem_filter.1 hi).1; simpa using this
    have h1 := hm.T i hi2
    have n1 := decL_len i 1 (by omega)
    have n2 := decZ_short (n := (m.T i).2) (k := 4) (by omega)
    have n3 : (if (m.T i).1 = true then [33] else ([] : Str)).length ≤ 1 := by split <;> simp
    unfold MW.text
    simp only [List.length_cons, List.length_append]; omega
  · obtain ⟨i, hi, rfl⟩ := List.mem_map.1 h
    have hi2 : i < 16 := by have := (List.mem_filter.1 hi).1; simpa using this
    have h1 := hm.C i hi2
    have n1 := decL_len i 1 (by omega)
    have n2 := decZ_short (n := (m.C i).2.2) (k := 4) (by omega)
    have n3 : (if (m.C i).1 = true then [33] else ([] : Str)).length ≤ 1 := by split <;> simp
    have n4 : (if (m.C i).2.1 = true then [43] else ([] : Str)).length ≤ 1 := by split <;> simp
    unfold MW.text
    simp only [List.length_cons, List.length_append]; omega
  · obtain ⟨i, hi, rfl⟩ := List.mem_map.1 h
    have hi2 : i < 32 := by have := (List.mem_filter.1 hi).1; simpa using this
    have h1 := hm.D i hi2
    have n1 := decL_len i 1 (by omega)
    have n2 := decZ_short (n := m.D i) (k := 4) (by omega)
    unfold MW.text
    simp only [List.length_cons, List.length_append]; omega
  · obtain ⟨i, hi, rfl⟩ := List.mem_map.1 h
    have hi2 : i < 16 := by have := (List.mem_filter.1 hi).1; simpa using this
    have n1 := decL_len i 1 (by omega)
    have n2 := realL_len (m.R i)
    unfold MW.text
    simp only [List.length_cons, List.length_append]; omega
  · have h1 := hm.Time
    have n2 := decZ_short (n := m.Time) (k := 9) (by omega)
    unfold endW at h
    simp only [List.mem_append] at h
    rcases h with h | h | h
    · split at h
      · rw [List.mem_singleton] at h; subst h
        unfold MW.text
        simp only [List.length_cons, List.length_append, List.length_nil]; omega
      · simp at h
    · split at h
      · rw [List.mem_singleton] at h; subst h; decide
      · simp at h
    · split at h
      · rw [List.mem_singleton] at h; subst h; decide
      · simp at h
end Go.Sx
namespace Go.Proofs.YtclbanhoiaieaaaGreatDoor
open Go Go.Sx
open List renaming all_eq_true → Y1, zipIdx → Y5
open Bool renaming exists_bool → Y3, forall_bool → Y4
attribute [local simp] Sx.vcsE1 Sx.vcsE2 Sx.vcsE3 Sx.vcsE4 Sx.vcsE5 Sx.vcsE6 Sx.vcsE7 Sx.vcsE8 Sx.vcsE9 Sx.vcsE10 Sx.vcsE11 Sx.vcsE12 Sx.vcsE13 Sx.vcsE14 Sx.vcsE15 Sx.vcsE16 Sx.vcsE17 Sx.vcsE18 Sx.vcsE19 Sx.get Sx.look Sx.put Sx.pureFn Sx.findOrd Sx.unF Sx.dstOk Sx.isFloatT Sx.endVC Sx.resFn Sx.packC Sx.newFn Sx.storeFn Sx.buildFn Sx.known Sx.aggT Sx.cellsC Sx.findCon Sx.allV Sx.partsV Sx.partsC Sx.fillL Sx.exitTo Sx.fAr Sx.eqFn Sx.eqFieldsFn Sx.eqElemsFn Sx.partFn Sx.sliceFn Sx.boundFn Sx.AppV Sx.CopyV Sx.MakeSliceV Sx.NewsV Sx.GrowV Sx.TextV Sx.bytesL Sx.notInt Sx.typeAt Sx.argAt Sx.den Go.undef Go.Value.cells Go.Value.oneCell' Sx.Con.pure Sx.Con.some Sx.Con.read Sx.Con.make Sx.Con.ext Sx.Con.rel Sx.Con.extS Sx.Con.draw Sx.Con.step Sx.C.one Sx.Draws.steps

theorem join_WB {cx : Cx} {mem : List Blk} {b cp d : Nat} {W : List MW} {pad : List C} {ty : TypeId} {K : C → Prop} (hk : mem[1]? = some ⟨b, WB W ++ pad, ty⟩) (hWc : W.length ≤ cp) (hl : W.length ≤ 1000) (hs : ∀ z ∈ W, z.text.length ≤ 90)
    (h : K (.v (.string (txt (joinL 32 (W.map MW.text)))))) : RdsW d join_S cx [.s 1 b 0 W.length cp, .v (.string (txt [32]))] mem K := by
  refine readW_at (S := join_S) (some ⟨b, 0, none⟩, cp, W.map MW.text, 32) (by simp [den, join_S]) (fun w' hm' => ⟨?_, ?_, by simpa using hWc, by simp; omega, ?_⟩) h
  · intro j v hj
    simp only [List.map_map, List.getElem?_map] at hj
    cases hz : W[j]? with
    | none => rw [hz] at hj; cases hj
    | some z =>
      rw [hz] at hj
      cases hj
      refine ⟨_, rfl, ?_⟩
      rw [addr_add, Nat.zero_add]
      have hjl := (List.getElem?_eq_some_iff.1 hz).1
      exact blk_cell hm' hk (c := .v (.string (txt z.text))) (by
        rw [List.getElem?_append_left (by rw [WB_len]; exact hjl)]
        unfold WB
        rw [List.getElem?_map, hz]; rfl)
  · rintro a ha
    cases ha; rfl
  · have h1 := joinL_len 32 (W.map MW.text)
    have h2 := flat_len (ws := (W.map MW.text).map (· ++ [32])) (b := 91) (by
      intro x hx
      simp only [List.map_map, List.mem_map] at hx
      obtain ⟨z, hz, rfl⟩ := hx
      have := hs z hz
      simp; omega)
    refine Nat.le_trans h1 (Nat.le_trans h2 ?_)
    simp only [List.length_map]
    omega
theorem markC_c (b : Bool) (l : Str) (w : World) : Calls Tryz.prog 64 #[.bool b, .string (txt l)] w fun e w' => e = .returned (.string (txt (if b then l else []))) ∧ RowKit.Below w.heap.size w w' := by
  refine (plain_of_vcs ⟨[], []⟩ hmx Tryz.func64 rfl (by kernel_rfl) (args := [.bool b, .string (txt l)]) (by simp [Tryz.ntmps64]) w (· = .string (txt (if b then l else []))) 400 ?_).mono fun e w' ⟨v, h1, h2, h3⟩ => ⟨h2 ▸ h1, h3⟩
  cases b <;> simp (maxSteps := 4000000) -dsimp [-Y1, -Array.all_eq_true, -Y3, -Y4, and_assoc, Y5, Tryz.f64, txt_eta]
def markC : Con Tryz.prog := Con.pure 64 Tryz.call64 (fun (i : ((Bool) × (Str))) => match i with | (b, l) => [.bool b, .string (txt l)]) (fun (i : ((Bool) × (Str))) => match i with | (b, l) => True) (fun (i : ((Bool) × (Str))) => match i with | (b, l) => .string (txt (if b then l else []))) fun i w _ => markC_c i.1 i.2 w
theorem iMemTextC_c (m : M) (w : World) (hpre : TT (factF ⟨w, [], w, []⟩) ∧ MOk m) : Calls Tryz.prog 15 #[.agg (cells m)] w fun e w' => e = .returned (.string (txt (memL m))) ∧ RowKit.Below w.heap.size w w' := by
  refine (plain_of_vcs ⟨[devSizeC, memBitC, iDevTextC, itoaC, markC, sameRealC, iRealTextC, fmtUintC, joinC], []⟩ hmx Tryz.func15 rfl (by kernel_rfl) (args := [.agg (cells m)]) (by simp [Tryz.ntmps15]) w (· = .string (txt (memL m))) 900 ?_).mono fun e w' ⟨v, h1, h2, h3⟩ => ⟨h2 ▸ h1, h3⟩
  obtain ⟨ht, hm⟩ := hpre
  simp (maxSteps := 4000000) -dsimp [-Y1, -Array.all_eq_true, -Y3, -Y4, and_assoc, Y5, Tryz.f15, devSizeC, memBitC, iDevTextC, itoaC, markC, sameRealC, iRealTextC, fmtUintC, joinC]
  intro b0 b1
  refine loop_inv (σ := ⟨[devSizeC, memBitC, iDevTextC, itoaC, markC, sameRealC, iRealTextC, fmtUintC, joinC], []⟩) hmx (by kernel_rfl) (fun q cx tm mem => Le ⟨w, [], w, []⟩ cx ∧ ∃ (k : Nat) (b' cp : Nat) (pad : List C), k ≤ 5 ∧ q = 5 - k ∧ (bitsU m k).length ≤ cp ∧ cp ≤ maxLen ∧ pad.length = cp - (bitsU m k).length ∧ mem = [⟨b0, cellC m, 36⟩, ⟨b', WB (bitsU m k) ++ pad, 9⟩] ∧
      Sx.look tm 4 = .v (.int .i64 (k + 1 : Nat)) ∧ Sx.look tm 3 = .s 1 b' 0 (bitsU m k).length cp ∧ Sx.look tm 1 = .p 0 b0 0)
    5 ⟨Le.refl _, 0, b1, 0, [], by omega, rfl, by simp [bitsU], by decide, rfl, by first | rfl | simp [bitsU, WB], by simp [Sx.look], by simp [Sx.look, bitsU], by simp [Sx.look]⟩ ?_
  rintro q cx tm mem ⟨hle, k, b', cp, pad, hk, rfl, hWc, hcp, hpad, rfl, j4, j3, j1⟩
  refine ⟨900, ?_⟩
  have hbl := bitsU_len m k
  by_cases hlt : k < 5
  · have h1 : (k : Int) + 1 ≤ 5 := by omega
    have hw1 : IntKind.i64.wrap ((k : Int) + 1 + 1) = (k : Int) + 1 + 1 := wrap_i64 (by omega) (by omega)
    obtain ⟨N, hN⟩ : ∃ N : Nat, devSize ((k : Int) + 1) = N := ⟨(devSize ((k : Int) + 1)).toNat, by have := devSize_bd ((k : Int) + 1); omega⟩
    have hN64 : N ≤ 64 := by have := devSize_le ((k : Int) + 1); omega
    simp (maxSteps := 4000000) -dsimp [-Y1, -Array.all_eq_true, -Y3, -Y4, and_assoc, Y5, Tryz.f15, devSizeC, memBitC, iDevTextC, itoaC, markC, sameRealC, iRealTextC, fmtUintC, joinC, j4, j3, j1, h1, hN]
    have ec : ((k + 1 : Nat) : Int) = (k : Int) + 1 := by omega
    refine loop_inv (σ := ⟨[devSizeC, memBitC, iDevTextC, itoaC, markC, sameRealC, iRealTextC, fmtUintC, joinC], []⟩) hmx (by kernel_rfl) (fun q cx' tm mem => Le ⟨w, [], w, []⟩ cx' ∧ ∃ (n : Nat) (b' cp : Nat) (pad : List C), n ≤ N ∧ q = N - n ∧ (bW m k n).length ≤ cp ∧ cp ≤ maxLen ∧ pad.length = cp - (bW m k n).length ∧ mem = [⟨b0, cellC m, 36⟩, ⟨b', WB (bW m k n) ++ pad, 9⟩] ∧
        Sx.look tm 22 = .v (.int .i64 n) ∧ Sx.look tm 21 = .v (.int .i64 N) ∧ Sx.look tm 4 = .v (.int .i64 (k + 1 : Nat)) ∧ Sx.look tm 3 = .s 1 b' 0 (bW m k n).length cp ∧ Sx.look tm 1 = .p 0 b0 0)
      N ⟨hle, 0, b', cp, pad, by omega, rfl, by rw [bW_zero]; exact hWc, hcp, by rw [bW_zero]; exact hpad, by rw [bW_zero], by simp [Sx.look], by simp [Sx.look], by simp [Sx.look, j4], by simp [Sx.look, j3, bW_zero], by simp [Sx.look, j1]⟩ ?_
    rintro q cx2 tm mem ⟨hle2, n, b2, cp2, pad2, hn, rfl, hWc2, hcp2, hpad2, rfl, i22, i21, i4, i3, i1⟩
    refine ⟨900, ?_⟩
    have hWl := bW_len m k n
    by_cases hnl : n < N
    · have hb : memBit m ((k : Int) + 1) n = bitP m (k + 1) n := rfl
      have htx : devL ⟨(k : Int) + 1, n, 0⟩ = (MW.bit ((k : Int) + 1) n).text := text_bit (k := k + 1) (n := n) (by omega) (by rw [ec]; omega)
      have t0 := fun (d : Nat) (mem : List Blk) (K : C → Prop) => iDevTextC_rw (k := (k : Int) + 1) (n := n) (p := 0) (d := d) (cx := cx2) (mem := mem) (K := K) ((ht.mono hle2.fact).mono (sub_now _ _))
      rw [htx] at t0
      cases hp : bitP m (k + 1) n
      · have e := bW_no hp
        simp (maxSteps := 4000000) -dsimp [-Y1, -Array.all_eq_true, -Y3, -Y4, and_assoc, Y5, Tryz.f15, devSizeC, memBitC, iDevTextC, itoaC, markC, sameRealC, iRealTextC, fmtUintC, joinC, i22, i21, i4, i3, i1, hnl, hb, hp, hm, i_succ (i := n) (by omega)]
        intro b
        exact ⟨2, N - (n + 1), by omega, hle2, n + 1, by omega, rfl, b2, cp2, by rw [e]; exact hWc2, hcp2, pad2, by rw [e]; exact hpad2, by rw [e]; rfl, by omega, rfl, by rw [e], rfl⟩
      · have e := bW_yes hp
        have e0 := WB_take (bW m k n) pad2
        have e1 := WB_full hpad2 hWc2
        simp (maxSteps := 4000000) -dsimp [-Y1, -Array.all_eq_true, -Y3, -Y4, and_assoc, Y5, Tryz.f15, devSizeC, memBitC, iDevTextC, itoaC, markC, sameRealC, iRealTextC, fmtUintC, joinC, i22, i21, i4, i3, i1, hnl, hb, hp, hm, t0, i_succ (i := n) (by omega)]
        intro b cx' p hle' hlit
        rw [RdL.sl (hlit.mono ((sub_new cx').trans (sub_now _ _))) (by rfl)]
        unfold GrowV
        simp (maxSteps := 4000000) -dsimp [-Y1, -Array.all_eq_true, -Y3, -Y4, and_assoc, Y5, Tryz.f15, devSizeC, memBitC, iDevTextC, itoaC, markC, sameRealC, iRealTextC, fmtUintC, joinC, i22, i21, i4, i3, i1, e0, e1, i_succ (i := n) (by omega)]
        refine ⟨hWc2, hcp2, by unfold maxLen; omega, by omega, fun b4 cp4 pad4 g1 g2 g3 => ⟨2, N - (n + 1), by omega, hle2.trans hle', n + 1, by omega, rfl, b4, cp4, by rw [e, List.length_append]; exact g1, g2, pad4, by rw [e, List.length_append]; exact g3, by rw [e, WB_push]; rfl, by omega, rfl, by rw [e, List.length_append]; rfl, rfl⟩⟩
    · obtain rfl : n = N := by omega
      have e := bW_full (m := m) hN
      simp (maxSteps := 4000000) -dsimp [-Y1, -Array.all_eq_true, -Y3, -Y4, and_assoc, Y5, Tryz.f15, devSizeC, memBitC, iDevTextC, itoaC, markC, sameRealC, iRealTextC, fmtUintC, joinC, i22, i21, i4, i3, i1, hw1]
      exact ⟨2, 5 - (k + 1), by omega, hle2, k + 1, by omega, rfl, b2, cp2, by rw [← e]; exact hWc2, hcp2, pad2, by rw [← e]; exact hpad2, by rw [← e]; rfl, by omega, rfl, by rw [e], rfl⟩
  · have hk5 : k = 5 := by omega
    subst hk5
    have hA0 : bitsU m 5 = A0 m := rfl
    rw [hA0] at hWc hpad j3 ⊢
    have h1 : ¬ ((5 : Nat) : Int) + 1 ≤ 5 := by omega
    simp (maxSteps := 4000000) -dsimp [-Y1, -Array.all_eq_true, -Y3, -Y4, and_assoc, Y5, Tryz.f15, devSizeC, memBitC, iDevTextC, itoaC, markC, sameRealC, iRealTextC, fmtUintC, joinC, j4, j3, j1, h1]
    obtain ⟨l0, l1, l2, l3, l4⟩ := A_len m
    
    
    
    
    
    
    
    
    
    -- timers
    refine loop_inv (σ := ⟨[devSizeC, memBitC, iDevTextC, itoaC, markC, sameRealC, iRealTextC, fmtUintC, joinC], []⟩) hmx (by kernel_rfl) (fun q cx' tm mem => Le ⟨w, [], w, []⟩ cx' ∧ ∃ (i : Nat) (b' cp : Nat) (pad : List C), i ≤ 16 ∧ q = 16 - i ∧ (accW (A0 m) (tP m) (tG m) i).length ≤ cp ∧ cp ≤ maxLen ∧ pad.length = cp - (accW (A0 m) (tP m) (tG m) i).length ∧ mem = [⟨b0, cellC m, 36⟩, ⟨b', WB (accW (A0 m) (tP m) (tG m) i) ++ pad, 9⟩] ∧
        Sx.look tm 39 = .v (.int .i64 i) ∧ Sx.look tm 38 = .v (.agg (tL m.T).toArray) ∧ Sx.look tm 3 = .s 1 b' 0 (accW (A0 m) (tP m) (tG m) i).length cp ∧ Sx.look tm 1 = .p 0 b0 0)
      16 ⟨hle, 0, b', cp, pad, by omega, rfl, by rw [accW_zero]; exact hWc, hcp, by rw [accW_zero]; exact hpad, by rw [accW_zero], by simp [Sx.look], by simp [Sx.look], by simp [Sx.look, j3, accW_zero], by simp [Sx.look, j1]⟩ ?_
    clear hle hWc hcp hpad j3 j1
    rintro q cx tm mem ⟨hle, i, b2, cp2, pad2, hi, rfl, hWc, hcp, hpad, rfl, ji, ja, j3, j1⟩
    refine ⟨900, ?_⟩
    have hWl := accW_len (A0 m) (tP m) (tG m) i
    by_cases hnl : i < 16
    · have hnl' : (i : Int) < 16 := by omega
      have hT := hm.T i hnl
      have gT := tL_at m.T i hnl
      have t0 := fun (d : Nat) (mem : List Blk) (K : C → Prop) => itoaC_rw (n := (i : Int)) (d := d) (cx := cx) (mem := mem) (K := K) ⟨((ht.mono hle.fact).mono (sub_now _ _)).p, by omega, by omega⟩
      have ei : decZ (i : Int) = decL i := by unfold decZ; rw [if_neg (by omega)]; rfl
      rw [ei] at t0
      have n1 := decL_len i 1 (by omega)
      cases hp : tP m i
      · have e := accW_no (B := A0 m) (g := tG m) hp
        have q1 : (m.T i).1 = false ∧ (m.T i).2 = 0 := by
          unfold tP at hp
          simp only [Bool.or_eq_false_iff, decide_eq_false_iff_not] at hp
          exact ⟨hp.1, by omega⟩
        simp (maxSteps := 4000000) -dsimp [-Y1, -Array.all_eq_true, -Y3, -Y4, and_assoc, Y5, Tryz.f15, devSizeC, memBitC, iDevTextC, itoaC, markC, sameRealC, iRealTextC, fmtUintC, joinC, ji, ja, j3, j1, hnl', gT, q1, i_succ (i := i) (by omega)]
        intro b
        exact ⟨2, 16 - (i + 1), by omega, hle, i + 1, by omega, rfl, b2, cp2, by rw [e]; exact hWc, hcp, pad2, by rw [e]; exact hpad, by rw [e]; rfl, by omega, rfl, by rw [e], rfl⟩
      · have e := accW_yes (B := A0 m) (g := tG m) hp
        have e0 := WB_take (accW (A0 m) (tP m) (tG m) i) pad2
        have e1 := WB_full hpad hWc
        have q1 : ((m.T i).1 = true ∨ ¬ (m.T i).2 = 0) = True := by
          unfold tP at hp
          simp only [Bool.or_eq_true, decide_eq_true_eq] at hp
          exact eq_true (hp.imp id (fun h => by omega))
        have q2 : ((m.T i).1 = false ∧ (m.T i).2 = 0) = False := by
          refine eq_false fun h => ?_
          have := of_eq_true q1
          rw [h.1, h.2] at this
          simp at this
        have t1 := fun (d : Nat) (mem : List Blk) (K : C → Prop) => itoaC_rw (n := (m.T i).2) (d := d) (cx := cx) (mem := mem) (K := K) ⟨((ht.mono hle.fact).mono (sub_now _ _)).p, by omega, by omega⟩
        have n2 := decZ_short (n := (m.T i).2) (k := 4) (by omega)
        have n3 : (if (m.T i).1 = true then [33] else ([] : Str)).length ≤ 1 := by split <;> simp
        have w1 : IntKind.i64.wrap (m.T i).2 = (m.T i).2 := wrap_i64 (by omega) (by omega)
        simp (maxSteps := 4000000) -dsimp [-Y1, -Array.all_eq_true, -Y3, -Y4, and_assoc, Y5, Tryz.f15, devSizeC, memBitC, iDevTextC, itoaC, markC, sameRealC, iRealTextC, fmtUintC, joinC, ji, ja, j3, j1, hnl', t0, gT, t1, q1, q2, w1, txt_eta, i_succ (i := i) (by omega)]
        intro b
        (repeat with_reducible refine And.intro (by omega) ?_)
        intro cx' p hle' hlit
        rw [RdL.sl (hlit.mono ((sub_new cx').trans (sub_now _ _))) (by rfl)]
        unfold GrowV
        simp (maxSteps := 4000000) -dsimp [-Y1, -Array.all_eq_true, -Y3, -Y4, and_assoc, Y5, Tryz.f15, devSizeC, memBitC, iDevTextC, itoaC, markC, sameRealC, iRealTextC, fmtUintC, joinC, ji, ja, j3, j1, e0, e1, i_succ (i := i) (by omega)]
        refine ⟨hWc, hcp, by unfold maxLen; omega, by omega, fun b4 cp4 pad4 g1 g2 g3 => ⟨2, 16 - (i + 1), by omega, hle.trans hle', i + 1, by omega, rfl, b4, cp4, by rw [e, List.length_append]; exact g1, g2, pad4, by rw [e, List.length_append]; exact g3, by rw [e, ← WB_push]; rfl, by omega, rfl, by rw [e, List.length_append]; rfl, rfl⟩⟩
    · obtain rfl : i = 16 := by omega
      have eA : accW (A0 m) (tP m) (tG m) 16 = A1 m := rfl
      rw [eA] at hWc hpad j3 ⊢
      simp (maxSteps := 4000000) -dsimp [-Y1, -Array.all_eq_true, -Y3, -Y4, and_assoc, Y5, Tryz.f15, devSizeC, memBitC, iDevTextC, itoaC, markC, sameRealC, iRealTextC, fmtUintC, joinC, ji, ja, j3, j1]
      -- counters
      refine loop_inv (σ := ⟨[devSizeC, memBitC, iDevTextC, itoaC, markC, sameRealC, iRealTextC, fmtUintC, joinC], []⟩) hmx (by kernel_rfl) (fun q cx' tm mem => Le ⟨w, [], w, []⟩ cx' ∧ ∃ (i : Nat) (b' cp : Nat) (pad : List C), i ≤ 16 ∧ q = 16 - i ∧ (accW (A1 m) (cP m) (cG m) i).length ≤ cp ∧ cp ≤ maxLen ∧ pad.length = cp - (accW (A1 m) (cP m) (cG m) i).length ∧ mem = [⟨b0, cellC m, 36⟩, ⟨b', WB (accW (A1 m) (cP m) (cG m) i) ++ pad, 9⟩] ∧
          Sx.look tm 65 = .v (.int .i64 i) ∧ Sx.look tm 64 = .v (.agg (cL m.C).toArray) ∧ Sx.look tm 3 = .s 1 b' 0 (accW (A1 m) (cP m) (cG m) i).length cp ∧ Sx.look tm 1 = .p 0 b0 0)
        16 ⟨hle, 0, b2, cp2, pad2, by omega, rfl, by rw [accW_zero]; exact hWc, hcp, by rw [accW_zero]; exact hpad, by rw [accW_zero], by simp [Sx.look], by simp [Sx.look], by simp [Sx.look, j3, accW_zero], by simp [Sx.look, j1]⟩ ?_
      clear hle hWc hcp hpad j3 j1
      rintro q cx tm mem ⟨hle, i, b2, cp2, pad2, hi, rfl, hWc, hcp, hpad, rfl, ji, ja, j3, j1⟩
      refine ⟨900, ?_⟩
      have hWl := accW_len (A1 m) (cP m) (cG m) i
      by_cases hnl : i < 16
      · have hnl' : (i : Int) < 16 := by omega
        have hC := hm.C i hnl
        have gC := cL_at m.C i hnl
        have t0 := fun (d : Nat) (mem : List Blk) (K : C → Prop) => itoaC_rw (n := (i : Int)) (d := d) (cx := cx) (mem := mem) (K := K) ⟨((ht.mono hle.fact).mono (sub_now _ _)).p, by omega, by omega⟩
        have ei : decZ (i : Int) = decL i := by unfold decZ; rw [if_neg (by omega)]; rfl
        rw [ei] at t0
        have n1 := decL_len i 1 (by omega)
        cases hp : cP m i
        · have e := accW_no (B := A1 m) (g := cG m) hp
          have q1 : (m.C i).1 = false ∧ (m.C i).2.1 = false ∧ (m.C i).2.2 = 0 := by
            unfold cP at hp
            simp only [Bool.or_eq_false_iff, decide_eq_false_iff_not] at hp
            exact ⟨hp.1, hp.2.1, by omega⟩
          simp (maxSteps := 4000000) -dsimp [-Y1, -Array.all_eq_true, -Y3, -Y4, and_assoc, Y5, Tryz.f15, devSizeC, memBitC, iDevTextC, itoaC, markC, sameRealC, iRealTextC, fmtUintC, joinC, ji, ja, j3, j1, hnl', gC, q1, i_succ (i := i) (by omega)]
          intro b
          exact ⟨2, 16 - (i + 1), by omega, hle, i + 1, by omega, rfl, b2, cp2, by rw [e]; exact hWc, hcp, pad2, by rw [e]; exact hpad, by rw [e]; rfl, by omega, rfl, by rw [e], rfl⟩
        · have e := accW_yes (B := A1 m) (g := cG m) hp
          have e0 := WB_take (accW (A1 m) (cP m) (cG m) i) pad2
          have e1 := WB_full hpad hWc
          have q1 : ((m.C i).1 = true ∨ (m.C i).2.1 = true ∨ ¬ (m.C i).2.2 = 0) = True := by
            unfold cP at hp
            simp only [Bool.or_eq_true, decide_eq_true_eq] at hp
            exact eq_true (hp.imp id (fun h => h.imp id (fun h => by omega)))
          have q2 : ((m.C i).1 = false ∧ (m.C i).2.1 = false ∧ (m.C i).2.2 = 0) = False := by
            refine eq_false fun h => ?_
            have := of_eq_true q1
            rw [h.1, h.2.1, h.2.2] at this
            simp at this
          have q3 : (((m.C i).1 = true ∨ (m.C i).2.1 = true) ∨ ¬ (m.C i).2.2 = 0) = True := by
            have := of_eq_true q1
            exact eq_true (or_assoc.2 this)
          have q4 : (((m.C i).1 = false ∧ (m.C i).2.1 = false) ∧ (m.C i).2.2 = 0) = False := by
            refine eq_false fun h => ?_
            rw [← q2]; exact ⟨h.1.1, h.1.2, h.2⟩
          have t1 := fun (d : Nat) (mem : List Blk) (K : C → Prop) => itoaC_rw (n := (m.C i).2.2) (d := d) (cx := cx) (mem := mem) (K := K) ⟨((ht.mono hle.fact).mono (sub_now _ _)).p, by omega, by omega⟩
          have n2 := decZ_short (n := (m.C i).2.2) (k := 4) (by omega)
          have n3 : (if (m.C i).1 = true then [33] else ([] : Str)).length ≤ 1 := by split <;> simp
          have n4 : (if (m.C i).2.1 = true then [43] else ([] : Str)).length ≤ 1 := by split <;> simp
          have w1 : IntKind.i64.wrap (m.C i).2.2 = (m.C i).2.2 := wrap_i64 (by omega) (by omega)
          simp (maxSteps := 4000000) -dsimp [-Y1, -Array.all_eq_true, -Y3, -Y4, and_assoc, Y5, Tryz.f15, devSizeC, memBitC, iDevTextC, itoaC, markC, sameRealC, iRealTextC, fmtUintC, joinC, ji, ja, j3, j1, hnl', t0, gC, t1, q1, q2, q3, q4, w1, txt_eta, i_succ (i := i) (by omega)]
          intro b
          (repeat with_reducible refine And.intro (by omega) ?_)
          intro cx' p hle' hlit
          rw [RdL.sl (hlit.mono ((sub_new cx').trans (sub_now _ _))) (by rfl)]
          unfold GrowV
          simp (maxSteps := 4000000) -dsimp [-Y1, -Array.all_eq_true, -Y3, -Y4, and_assoc, Y5, Tryz.f15, devSizeC, memBitC, iDevTextC, itoaC, markC, sameRealC, iRealTextC, fmtUintC, joinC, ji, ja, j3, j1, e0, e1, i_succ (i := i) (by omega)]
          refine ⟨hWc, hcp, by unfold maxLen; omega, by omega, fun b4 cp4 pad4 g1 g2 g3 => ⟨2, 16 - (i + 1), by omega, hle.trans hle', i + 1, by omega, rfl, b4, cp4, by rw [e, List.length_append]; exact g1, g2, pad4, by rw [e, List.length_append]; exact g3, by rw [e, ← WB_push]; rfl, by omega, rfl, by rw [e, List.length_append]; rfl, rfl⟩⟩
      · obtain rfl : i = 16 := by omega
        have eA : accW (A1 m) (cP m) (cG m) 16 = A2 m := rfl
        rw [eA] at hWc hpad j3 ⊢
        simp (maxSteps := 4000000) -dsimp [-Y1, -Array.all_eq_true, -Y3, -Y4, and_assoc, Y5, Tryz.f15, devSizeC, memBitC, iDevTextC, itoaC, markC, sameRealC, iRealTextC, fmtUintC, joinC, ji, ja, j3, j1]
        -- whole registers
        refine loop_inv (σ := ⟨[devSizeC, memBitC, iDevTextC, itoaC, markC, sameRealC, iRealTextC, fmtUintC, joinC], []⟩) hmx (by kernel_rfl) (fun q cx' tm mem => Le ⟨w, [], w, []⟩ cx' ∧ ∃ (i : Nat) (b' cp : Nat) (pad : List C), i ≤ 32 ∧ q = 32 - i ∧ (accW (A2 m) (dP m) (dG m) i).length ≤ cp ∧ cp ≤ maxLen ∧ pad.length = cp - (accW (A2 m) (dP m) (dG m) i).length ∧ mem = [⟨b0, cellC m, 36⟩, ⟨b', WB (accW (A2 m) (dP m) (dG m) i) ++ pad, 9⟩] ∧
            Sx.look tm 95 = .v (.int .i64 i) ∧ Sx.look tm 94 = .v (.agg (dL m.D).toArray) ∧ Sx.look tm 3 = .s 1 b' 0 (accW (A2 m) (dP m) (dG m) i).length cp ∧ Sx.look tm 1 = .p 0 b0 0)
          32 ⟨hle, 0, b2, cp2, pad2, by omega, rfl, by rw [accW_zero]; exact hWc, hcp, by rw [accW_zero]; exact hpad, by rw [accW_zero], by simp [Sx.look], by simp [Sx.look], by simp [Sx.look, j3, accW_zero], by simp [Sx.look, j1]⟩ ?_
        clear hle hWc hcp hpad j3 j1
        rintro q cx tm mem ⟨hle, i, b2, cp2, pad2, hi, rfl, hWc, hcp, hpad, rfl, ji, ja, j3, j1⟩
        refine ⟨900, ?_⟩
        have hWl := accW_len (A2 m) (dP m) (dG m) i
        by_cases hnl : i < 32
        · have hnl' : (i : Int) < 32 := by omega
          have hD := hm.D i hnl
          have gD := dL_at m.D i hnl
          have t0 := fun (d : Nat) (mem : List Blk) (K : C → Prop) => itoaC_rw (n := (i : Int)) (d := d) (cx := cx) (mem := mem) (K := K) ⟨((ht.mono hle.fact).mono (sub_now _ _)).p, by omega, by omega⟩
          have ei : decZ (i : Int) = decL i := by unfold decZ; rw [if_neg (by omega)]; rfl
          rw [ei] at t0
          have n1 := decL_len i 1 (by omega)
          cases hp : dP m i
          · have e := accW_no (B := A2 m) (g := dG m) hp
            have q1 : m.D i = 0 := by
              unfold dP at hp
              simpa using hp
            simp (maxSteps := 4000000) -dsimp [-Y1, -Array.all_eq_true, -Y3, -Y4, and_assoc, Y5, Tryz.f15, devSizeC, memBitC, iDevTextC, itoaC, markC, sameRealC, iRealTextC, fmtUintC, joinC, ji, ja, j3, j1, hnl', gD, q1, i_succ (i := i) (by omega)]
            exact ⟨2, 32 - (i + 1), by omega, hle, i + 1, by omega, rfl, b2, cp2, by rw [e]; exact hWc, hcp, pad2, by rw [e]; exact hpad, by rw [e]; rfl, by omega, rfl, by rw [e], rfl⟩
          · have e := accW_yes (B := A2 m) (g := dG m) hp
            have e0 := WB_take (accW (A2 m) (dP m) (dG m) i) pad2
            have e1 := WB_full hpad hWc
            have q1 : ¬ m.D i = 0 := by
              unfold dP at hp
              simpa using hp
            have t1 := fun (d : Nat) (mem : List Blk) (K : C → Prop) => itoaC_rw (n := m.D i) (d := d) (cx := cx) (mem := mem) (K := K) ⟨((ht.mono hle.fact).mono (sub_now _ _)).p, by omega, by omega⟩
            have n2 := decZ_short (n := m.D i) (k := 4) (by omega)
            have w1 : IntKind.i64.wrap (m.D i) = m.D i := wrap_i64 (by omega) (by omega)
            simp (maxSteps := 4000000) -dsimp [-Y1, -Array.all_eq_true, -Y3, -Y4, and_assoc, Y5, Tryz.f15, devSizeC, memBitC, iDevTextC, itoaC, markC, sameRealC, iRealTextC, fmtUintC, joinC, ji, ja, j3, j1, hnl', t0, gD, t1, q1, w1, txt_eta, i_succ (i := i) (by omega)]
            (repeat with_reducible refine And.intro (by omega) ?_)
            intro cx' p hle' hlit
            rw [RdL.sl (hlit.mono ((sub_new cx').trans (sub_now _ _))) (by rfl)]
            unfold GrowV
            simp (maxSteps := 4000000) -dsimp [-Y1, -Array.all_eq_true, -Y3, -Y4, and_assoc, Y5, Tryz.f15, devSizeC, memBitC, iDevTextC, itoaC, markC, sameRealC, iRealTextC, fmtUintC, joinC, ji, ja, j3, j1, e0, e1, i_succ (i := i) (by omega)]
            refine ⟨hWc, hcp, by unfold maxLen; omega, by omega, fun b4 cp4 pad4 g1 g2 g3 => ⟨2, 32 - (i + 1), by omega, hle.trans hle', i + 1, by omega, rfl, b4, cp4, by rw [e, List.length_append]; exact g1, g2, pad4, by rw [e, List.length_append]; exact g3, by rw [e, ← WB_push]; rfl, by omega, rfl, by rw [e, List.length_append]; rfl, rfl⟩⟩
        · obtain rfl : i = 32 := by omega
          have eA : accW (A2 m) (dP m) (dG m) 32 = A3 m := rfl
          rw [eA] at hWc hpad j3 ⊢
          simp (maxSteps := 4000000) -dsimp [-Y1, -Array.all_eq_true, -Y3, -Y4, and_assoc, Y5, Tryz.f15, devSizeC, memBitC, iDevTextC, itoaC, markC, sameRealC, iRealTextC, fmtUintC, joinC, ji, ja, j3, j1]
          -- real registers
          refine loop_inv (σ := ⟨[devSizeC, memBitC, iDevTextC, itoaC, markC, sameRealC, iRealTextC, fmtUintC, joinC], []⟩) hmx (by kernel_rfl) (fun q cx' tm mem => Le ⟨w, [], w, []⟩ cx' ∧ ∃ (i : Nat) (b' cp : Nat) (pad : List C), i ≤ 16 ∧ q = 16 - i ∧ (accW (A3 m) (rP m) (rG m) i).length ≤ cp ∧ cp ≤ maxLen ∧ pad.length = cp - (accW (A3 m) (rP m) (rG m) i).length ∧ mem = [⟨b0, cellC m, 36⟩, ⟨b', WB (accW (A3 m) (rP m) (rG m) i) ++ pad, 9⟩] ∧
              Sx.look tm 115 = .v (.int .i64 i) ∧ Sx.look tm 114 = .v (.agg (rL m.R).toArray) ∧ Sx.look tm 3 = .s 1 b' 0 (accW (A3 m) (rP m) (rG m) i).length cp ∧ Sx.look tm 1 = .p 0 b0 0)
            16 ⟨hle, 0, b2, cp2, pad2, by omega, rfl, by rw [accW_zero]; exact hWc, hcp, by rw [accW_zero]; exact hpad, by rw [accW_zero], by simp [Sx.look], by simp [Sx.look], by simp [Sx.look, j3, accW_zero], by simp [Sx.look, j1]⟩ ?_
          clear hle hWc hcp hpad j3 j1
          rintro q cx tm mem ⟨hle, i, b2, cp2, pad2, hi, rfl, hWc, hcp, hpad, rfl, ji, ja, j3, j1⟩
          refine ⟨900, ?_⟩
          have hWl := accW_len (A3 m) (rP m) (rG m) i
          by_cases hnl : i < 16
          · have hnl' : (i : Int) < 16 := by omega
            have hR := hm.R i hnl
            have gR := rL_at m.R i hnl
            have t0 := fun (d : Nat) (mem : List Blk) (K : C → Prop) => itoaC_rw (n := (i : Int)) (d := d) (cx := cx) (mem := mem) (K := K) ⟨((ht.mono hle.fact).mono (sub_now _ _)).p, by omega, by omega⟩
            have ei : decZ (i : Int) = decL i := by unfold decZ; rw [if_neg (by omega)]; rfl
            rw [ei] at t0
            have n1 := decL_len i 1 (by omega)
            cases hp : rP m i
            · have e := accW_no (B := A3 m) (g := rG m) hp
              have q1 : sameFB (m.R i) 0 = true := by
                unfold rP at hp
                have : m.R i = 0 := by simpa using hp
                rw [this]; decide
              simp (maxSteps := 4000000) -dsimp [-Y1, -Array.all_eq_true, -Y3, -Y4, and_assoc, Y5, Tryz.f15, devSizeC, memBitC, iDevTextC, itoaC, markC, sameRealC, iRealTextC, fmtUintC, joinC, ji, ja, j3, j1, hnl', gR, q1, i_succ (i := i) (by omega)]
              exact ⟨2, 16 - (i + 1), by omega, hle, i + 1, by omega, rfl, b2, cp2, by rw [e]; exact hWc, hcp, pad2, by rw [e]; exact hpad, by rw [e]; rfl, by omega, rfl, by rw [e], rfl⟩
            · have e := accW_yes (B := A3 m) (g := rG m) hp
              have e0 := WB_take (accW (A3 m) (rP m) (rG m) i) pad2
              have e1 := WB_full hpad hWc
              have q1 : sameFB (m.R i) 0 = false := by
                unfold rP at hp
                rw [Bool.eq_false_iff]
                intro h
                rcases sameFB_iff.1 h with ⟨h1, _⟩ | ⟨_, h2⟩
                · simp [h1] at hp
                · exact absurd h2 (by decide)
              have t1 := fun (d : Nat) (mem : List Blk) (K : C → Prop) => iRealTextC_rw (x := m.R i) (d := d) (cx := cx) (mem := mem) (K := K) ⟨((ht.mono hle.fact).mono (sub_now _ _)).p, hR⟩
              have n2 := realL_len (m.R i)
              simp (maxSteps := 4000000) -dsimp [-Y1, -Array.all_eq_true, -Y3, -Y4, and_assoc, Y5, Tryz.f15, devSizeC, memBitC, iDevTextC, itoaC, markC, sameRealC, iRealTextC, fmtUintC, joinC, ji, ja, j3, j1, hnl', t0, gR, t1, q1, txt_eta, i_succ (i := i) (by omega)]
              (repeat with_reducible refine And.intro (by omega) ?_)
              intro cx' p hle' hlit
              rw [RdL.sl (hlit.mono ((sub_new cx').trans (sub_now _ _))) (by rfl)]
              unfold GrowV
              simp (maxSteps := 4000000) -dsimp [-Y1, -Array.all_eq_true, -Y3, -Y4, and_assoc, Y5, Tryz.f15, devSizeC, memBitC, iDevTextC, itoaC, markC, sameRealC, iRealTextC, fmtUintC, joinC, ji, ja, j3, j1, e0, e1, i_succ (i := i) (by omega)]
              refine ⟨hWc, hcp, by unfold maxLen; omega, by omega, fun b4 cp4 pad4 g1 g2 g3 => ⟨2, 16 - (i + 1), by omega, hle.trans hle', i + 1, by omega, rfl, b4, cp4, by rw [e, List.length_append]; exact g1, g2, pad4, by rw [e, List.length_append]; exact g3, by rw [e, ← WB_push]; rfl, by omega, rfl, by rw [e, List.length_append]; rfl, rfl⟩⟩
          · obtain rfl : i = 16 := by omega
            have eA : accW (A3 m) (rP m) (rG m) 16 = A4 m := rfl
            rw [eA] at hWc hpad j3 ⊢
            simp (maxSteps := 4000000) -dsimp [-Y1, -Array.all_eq_true, -Y3, -Y4, and_assoc, Y5, Tryz.f15, devSizeC, memBitC, iDevTextC, itoaC, markC, sameRealC, iRealTextC, fmtUintC, joinC, ji, ja, j3, j1]
            have hTm := hm.Time
            obtain ⟨T, hT⟩ : ∃ T : Nat, m.Time = T := ⟨m.Time.toNat, by omega⟩
            have w1 : IntKind.u64.wrap (T : Int) = T := wrap_u64 (by omega) (by omega)
            have eT : decZ (T : Int) = decL T := by unfold decZ; rw [if_neg (by omega)]; rfl
            have n2 := decL_len T 9 (by omega)
            have hshort := memW_short hm
            have hmW := memW_A m
            unfold endW at hmW
            rw [hT] at hmW
            obtain ⟨Z, hZ⟩ : ∃ Z, Z = memL m := ⟨_, rfl⟩
            have eZ : Z = joinL 32 ((memW m).map MW.text) := hZ
            rw [← hZ]
            clear hZ
            by_cases h0 : T = 0
            · cases hr : m.Ran
              · cases hf : m.Fault
                · skip
                  have hW : memW m = A4 m := by rw [hmW, hr, hf]; simp [h0]
                  rw [hW] at hshort eZ
                  simp (maxSteps := 4000000) -dsimp [-Y1, -Array.all_eq_true, -Y3, -Y4, and_assoc, Y5, Tryz.f15, devSizeC, memBitC, iDevTextC, itoaC, markC, sameRealC, iRealTextC, fmtUintC, joinC, j3, j1, hT, w1, h0, hr, hf, txt_eta, joinC, Con.readW]
                  refine join_WB rfl hWc (by omega) hshort ?_
                  rw [← eZ]
                  simp (maxSteps := 4000000) -dsimp [-Y1, -Array.all_eq_true, -Y3, -Y4, and_assoc, Y5, Tryz.f15, devSizeC, memBitC, iDevTextC, itoaC, markC, sameRealC, iRealTextC, fmtUintC, joinC, ]
                  exact ⟨hle.w0, hle.g0⟩
                · skip
                  have hW : memW m = A4 m ++ [MW.fault] := by rw [hmW, hr, hf]; simp [h0]
                  rw [hW] at hshort eZ
                  simp (maxSteps := 4000000) -dsimp [-Y1, -Array.all_eq_true, -Y3, -Y4, and_assoc, Y5, Tryz.f15, devSizeC, memBitC, iDevTextC, itoaC, markC, sameRealC, iRealTextC, fmtUintC, joinC, j3, j1, hT, w1, h0, hr, hf, txt_eta, joinC, Con.readW]
                  skip
                  intro cx0 p0 hle0 hlit0
                  rw [RdL.sl (hlit0.mono ((sub_new cx0).trans (sub_now _ _))) (by rfl)]
                  unfold GrowV
                  have e0 := WB_take (A4 m) pad2
                  have e1 := WB_full hpad hWc
                  simp (maxSteps := 4000000) -dsimp [-Y1, -Array.all_eq_true, -Y3, -Y4, and_assoc, Y5, Tryz.f15, devSizeC, memBitC, iDevTextC, itoaC, markC, sameRealC, iRealTextC, fmtUintC, joinC, j3, j1, e0, e1, hT, w1, h0, hr, hf, txt_eta, joinC, Con.readW]
                  refine ⟨hWc, hcp, by unfold maxLen; (try simp only [List.length_append, List.length_cons, List.length_nil]); omega, by (try simp only [List.length_append, List.length_cons, List.length_nil]); omega, ?_⟩
                  clear e0 e1 hpad hWc hcp
                  rintro b2 cp2 pad2 hWc hcp hpad
                  have ez : ([102, 97, 117, 108, 116] : Str) = (MW.fault).text := rfl
                  obtain ⟨V0, hV0⟩ : ∃ V, V = A4 m ++ [MW.fault] := ⟨_, rfl⟩
                  have el : (A4 m).length + 1 = V0.length := by rw [hV0]; simp
                  rw [el] at hWc hpad
                  have hWl0 : V0.length ≤ 401 := by rw [← el]; omega
                  rw [← hV0] at hshort eZ
                  rw [ez, WB_push, ← hV0, el]
                  refine join_WB rfl hWc (by omega) hshort ?_
                  rw [← eZ]
                  simp (maxSteps := 4000000) -dsimp [-Y1, -Array.all_eq_true, -Y3, -Y4, and_assoc, Y5, Tryz.f15, devSizeC, memBitC, iDevTextC, itoaC, markC, sameRealC, iRealTextC, fmtUintC, joinC, ]
                  exact ⟨(hle.trans hle0).w0, (hle.trans hle0).g0⟩
              · cases hf : m.Fault
                · skip
                  have hW : memW m = A4 m ++ [MW.ran] := by rw [hmW, hr, hf]; simp [h0]
                  rw [hW] at hshort eZ
                  simp (maxSteps := 4000000) -dsimp [-Y1, -Array.all_eq_true, -Y3, -Y4, and_assoc, Y5, Tryz.f15, devSizeC, memBitC, iDevTextC, itoaC, markC, sameRealC, iRealTextC, fmtUintC, joinC, j3, j1, hT, w1, h0, hr, hf, txt_eta, joinC, Con.readW]
                  skip
                  intro cx0 p0 hle0 hlit0
                  rw [RdL.sl (hlit0.mono ((sub_new cx0).trans (sub_now _ _))) (by rfl)]
                  unfold GrowV
                  have e0 := WB_take (A4 m) pad2
                  have e1 := WB_full hpad hWc
                  simp (maxSteps := 4000000) -dsimp [-Y1, -Array.all_eq_true, -Y3, -Y4, and_assoc, Y5, Tryz.f15, devSizeC, memBitC, iDevTextC, itoaC, markC, sameRealC, iRealTextC, fmtUintC, joinC, j3, j1, e0, e1, hT, w1, h0, hr, hf, txt_eta, joinC, Con.readW]
                  refine ⟨hWc, hcp, by unfold maxLen; (try simp only [List.length_append, List.length_cons, List.length_nil]); omega, by (try simp only [List.length_append, List.length_cons, List.length_nil]); omega, ?_⟩
                  clear e0 e1 hpad hWc hcp
                  rintro b2 cp2 pad2 hWc hcp hpad
                  have ez : ([114, 97, 110] : Str) = (MW.ran).text := rfl
                  obtain ⟨V0, hV0⟩ : ∃ V, V = A4 m ++ [MW.ran] := ⟨_, rfl⟩
                  have el : (A4 m).length + 1 = V0.length := by rw [hV0]; simp
                  rw [el] at hWc hpad
                  have hWl0 : V0.length ≤ 401 := by rw [← el]; omega
                  rw [← hV0] at hshort eZ
                  rw [ez, WB_push, ← hV0, el]
                  refine join_WB rfl hWc (by omega) hshort ?_
                  rw [← eZ]
                  simp (maxSteps := 4000000) -dsimp [-Y1, -Array.all_eq_true, -Y3, -Y4, and_assoc, Y5, Tryz.f15, devSizeC, memBitC, iDevTextC, itoaC, markC, sameRealC, iRealTextC, fmtUintC, joinC, ]
                  exact ⟨(hle.trans hle0).w0, (hle.trans hle0).g0⟩
                · skip
                  have hW : memW m = A4 m ++ [MW.ran] ++ [MW.fault] := by rw [hmW, hr, hf]; simp [h0]
                  rw [hW] at hshort eZ
                  simp (maxSteps := 4000000) -dsimp [-Y1, -Array.all_eq_true, -Y3, -Y4, and_assoc, Y5, Tryz.f15, devSizeC, memBitC, iDevTextC, itoaC, markC, sameRealC, iRealTextC, fmtUintC, joinC, j3, j1, hT, w1, h0, hr, hf, txt_eta, joinC, Con.readW]
                  skip
                  intro cx0 p0 hle0 hlit0
                  rw [RdL.sl (hlit0.mono ((sub_new cx0).trans (sub_now _ _))) (by rfl)]
                  unfold GrowV
                  have e0 := WB_take (A4 m) pad2
                  have e1 := WB_full hpad hWc
                  simp (maxSteps := 4000000) -dsimp [-Y1, -Array.all_eq_true, -Y3, -Y4, and_assoc, Y5, Tryz.f15, devSizeC, memBitC, iDevTextC, itoaC, markC, sameRealC, iRealTextC, fmtUintC, joinC, j3, j1, e0, e1, hT, w1, h0, hr, hf, txt_eta, joinC, Con.readW]
                  refine ⟨hWc, hcp, by unfold maxLen; (try simp only [List.length_append, List.length_cons, List.length_nil]); omega, by (try simp only [List.length_append, List.length_cons, List.length_nil]); omega, ?_⟩
                  clear e0 e1 hpad hWc hcp
                  rintro b2 cp2 pad2 hWc hcp hpad
                  have ez : ([114, 97, 110] : Str) = (MW.ran).text := rfl
                  obtain ⟨V0, hV0⟩ : ∃ V, V = A4 m ++ [MW.ran] := ⟨_, rfl⟩
                  have el : (A4 m).length + 1 = V0.length := by rw [hV0]; simp
                  rw [el] at hWc hpad
                  have hWl0 : V0.length ≤ 401 := by rw [← el]; omega
                  rw [← hV0] at hshort eZ
                  rw [ez, WB_push, ← hV0, el]
                  skip
                  intro cx1 p1 hle1 hlit1
                  rw [RdL.sl (hlit1.mono ((sub_new cx1).trans (sub_now _ _))) (by rfl)]
                  unfold GrowV
                  have e0 := WB_take (V0) pad2
                  have e1 := WB_full hpad hWc
                  simp (maxSteps := 4000000) -dsimp [-Y1, -Array.all_eq_true, -Y3, -Y4, and_assoc, Y5, Tryz.f15, devSizeC, memBitC, iDevTextC, itoaC, markC, sameRealC, iRealTextC, fmtUintC, joinC, j3, j1, e0, e1, hT, w1, h0, hr, hf, txt_eta, joinC, Con.readW]
                  refine ⟨hWc, hcp, by unfold maxLen; (try simp only [List.length_append, List.length_cons, List.length_nil]); omega, by (try simp only [List.length_append, List.length_cons, List.length_nil]); omega, ?_⟩
                  clear e0 e1 hpad hWc hcp
                  rintro b2 cp2 pad2 hWc hcp hpad
                  have ez : ([102, 97, 117, 108, 116] : Str) = (MW.fault).text := rfl
                  obtain ⟨V1, hV1⟩ : ∃ V, V = V0 ++ [MW.fault] := ⟨_, rfl⟩
                  have el : (V0).length + 1 = V1.length := by rw [hV1]; simp
                  rw [el] at hWc hpad
                  have hWl1 : V1.length ≤ 402 := by rw [← el]; omega
                  rw [← hV1] at hshort eZ
                  rw [ez, WB_push, ← hV1, el]
                  refine join_WB rfl hWc (by omega) hshort ?_
                  rw [← eZ]
                  simp (maxSteps := 4000000) -dsimp [-Y1, -Array.all_eq_true, -Y3, -Y4, and_assoc, Y5, Tryz.f15, devSizeC, memBitC, iDevTextC, itoaC, markC, sameRealC, iRealTextC, fmtUintC, joinC, ]
                  exact ⟨((hle.trans hle0).trans hle1).w0, ((hle.trans hle0).trans hle1).g0⟩
            · cases hr : m.Ran
              · cases hf : m.Fault
                · skip
                  have t2 := fun (d : Nat) (mem : List Blk) (K : C → Prop) => fmtUintC_rw (u := T) (d := d) (cx := cx) (mem := mem) (K := K) ⟨((ht.mono hle.fact).mono (sub_now _ _)).p, by omega⟩
                  have hW : memW m = A4 m ++ [MW.time (T : Int)] := by rw [hmW, hr, hf]; simp [h0, Nat.pos_of_ne_zero h0]
                  rw [hW] at hshort eZ
                  simp (maxSteps := 4000000) -dsimp [-Y1, -Array.all_eq_true, -Y3, -Y4, and_assoc, Y5, Tryz.f15, devSizeC, memBitC, iDevTextC, itoaC, markC, sameRealC, iRealTextC, fmtUintC, joinC, j3, j1, hT, w1, h0, t2, hr, hf, txt_eta, joinC, Con.readW]
                  (repeat with_reducible refine And.intro (by omega) ?_)
                  skip
                  intro cx0 p0 hle0 hlit0
                  rw [RdL.sl (hlit0.mono ((sub_new cx0).trans (sub_now _ _))) (by rfl)]
                  unfold GrowV
                  have e0 := WB_take (A4 m) pad2
                  have e1 := WB_full hpad hWc
                  simp (maxSteps := 4000000) -dsimp [-Y1, -Array.all_eq_true, -Y3, -Y4, and_assoc, Y5, Tryz.f15, devSizeC, memBitC, iDevTextC, itoaC, markC, sameRealC, iRealTextC, fmtUintC, joinC, j3, j1, e0, e1, hT, w1, h0, t2, hr, hf, txt_eta, joinC, Con.readW]
                  refine ⟨hWc, hcp, by unfold maxLen; (try simp only [List.length_append, List.length_cons, List.length_nil]); omega, by (try simp only [List.length_append, List.length_cons, List.length_nil]); omega, ?_⟩
                  clear e0 e1 hpad hWc hcp
                  rintro b2 cp2 pad2 hWc hcp hpad
                  have ez : (116 :: 105 :: 109 :: 101 :: 61 :: decL T : Str) = (MW.time (T : Int)).text := by show _ = [116, 105, 109, 101, 61] ++ decZ (T : Int); rw [eT]; rfl
                  obtain ⟨V0, hV0⟩ : ∃ V, V = A4 m ++ [MW.time (T : Int)] := ⟨_, rfl⟩
                  have el : (A4 m).length + 1 = V0.length := by rw [hV0]; simp
                  rw [el] at hWc hpad
                  have hWl0 : V0.length ≤ 401 := by rw [← el]; omega
                  rw [← hV0] at hshort eZ
                  rw [ez, WB_push, ← hV0, el]
                  refine join_WB rfl hWc (by omega) hshort ?_
                  rw [← eZ]
                  simp (maxSteps := 4000000) -dsimp [-Y1, -Array.all_eq_true, -Y3, -Y4, and_assoc, Y5, Tryz.f15, devSizeC, memBitC, iDevTextC, itoaC, markC, sameRealC, iRealTextC, fmtUintC, joinC, ]
                  exact ⟨(hle.trans hle0).w0, (hle.trans hle0).g0⟩
                · skip
                  have t2 := fun (d : Nat) (mem : List Blk) (K : C → Prop) => fmtUintC_rw (u := T) (d := d) (cx := cx) (mem := mem) (K := K) ⟨((ht.mono hle.fact).mono (sub_now _ _)).p, by omega⟩
                  have hW : memW m = A4 m ++ [MW.time (T : Int)] ++ [MW.fault] := by rw [hmW, hr, hf]; simp [h0, Nat.pos_of_ne_zero h0]
                  rw [hW] at hshort eZ
                  simp (maxSteps := 4000000) -dsimp [-Y1, -Array.all_eq_true, -Y3, -Y4, and_assoc, Y5, Tryz.f15, devSizeC, memBitC, iDevTextC, itoaC, markC, sameRealC, iRealTextC, fmtUintC, joinC, j3, j1, hT, w1, h0, t2, hr, hf, txt_eta, joinC, Con.readW]
                  (repeat with_reducible refine And.intro (by omega) ?_)
                  skip
                  intro cx0 p0 hle0 hlit0
                  rw [RdL.sl (hlit0.mono ((sub_new cx0).trans (sub_now _ _))) (by rfl)]
                  unfold GrowV
                  have e0 := WB_take (A4 m) pad2
                  have e1 := WB_full hpad hWc
                  simp (maxSteps := 4000000) -dsimp [-Y1, -Array.all_eq_true, -Y3, -Y4, and_assoc, Y5, Tryz.f15, devSizeC, memBitC, iDevTextC, itoaC, markC, sameRealC, iRealTextC, fmtUintC, joinC, j3, j1, e0, e1, hT, w1, h0, t2, hr, hf, txt_eta, joinC, Con.readW]
                  refine ⟨hWc, hcp, by unfold maxLen; (try simp only [List.length_append, List.length_cons, List.length_nil]); omega, by (try simp only [List.length_append, List.length_cons, List.length_nil]); omega, ?_⟩
                  clear e0 e1 hpad hWc hcp
                  rintro b2 cp2 pad2 hWc hcp hpad
                  have ez : (116 :: 105 :: 109 :: 101 :: 61 :: decL T : Str) = (MW.time (T : Int)).text := by show _ = [116, 105, 109, 101, 61] ++ decZ (T : Int); rw [eT]; rfl
                  obtain ⟨V0, hV0⟩ : ∃ V, V = A4 m ++ [MW.time (T : Int)] := ⟨_, rfl⟩
                  have el : (A4 m).length + 1 = V0.length := by rw [hV0]; simp
                  rw [el] at hWc hpad
                  have hWl0 : V0.length ≤ 401 := by rw [← el]; omega
                  rw [← hV0] at hshort eZ
                  rw [ez, WB_push, ← hV0, el]
                  skip
                  intro cx1 p1 hle1 hlit1
                  rw [RdL.sl (hlit1.mono ((sub_new cx1).trans (sub_now _ _))) (by rfl)]
                  unfold GrowV
                  have e0 := WB_take (V0) pad2
                  have e1 := WB_full hpad hWc
                  simp (maxSteps := 4000000) -dsimp [-Y1, -Array.all_eq_true, -Y3, -Y4, and_assoc, Y5, Tryz.f15, devSizeC, memBitC, iDevTextC, itoaC, markC, sameRealC, iRealTextC, fmtUintC, joinC, j3, j1, e0, e1, hT, w1, h0, t2, hr, hf, txt_eta, joinC, Con.readW]
                  refine ⟨hWc, hcp, by unfold maxLen; (try simp only [List.length_append, List.length_cons, List.length_nil]); omega, by (try simp only [List.length_append, List.length_cons, List.length_nil]); omega, ?_⟩
                  clear e0 e1 hpad hWc hcp
                  rintro b2 cp2 pad2 hWc hcp hpad
                  have ez : ([102, 97, 117, 108, 116] : Str) = (MW.fault).text := rfl
                  obtain ⟨V1, hV1⟩ : ∃ V, V = V0 ++ [MW.fault] := ⟨_, rfl⟩
                  have el : (V0).length + 1 = V1.length := by rw [hV1]; simp
                  rw [el] at hWc hpad
                  have hWl1 : V1.length ≤ 402 := by rw [← el]; omega
                  rw [← hV1] at hshort eZ
                  rw [ez, WB_push, ← hV1, el]
                  refine join_WB rfl hWc (by omega) hshort ?_
                  rw [← eZ]
                  simp (maxSteps := 4000000) -dsimp [-Y1, -Array.all_eq_true, -Y3, -Y4, and_assoc, Y5, Tryz.f15, devSizeC, memBitC, iDevTextC, itoaC, markC, sameRealC, iRealTextC, fmtUintC, joinC, ]
                  exact ⟨((hle.trans hle0).trans hle1).w0, ((hle.trans hle0).trans hle1).g0⟩
              · cases hf : m.Fault
                · skip
                  have t2 := fun (d : Nat) (mem : List Blk) (K : C → Prop) => fmtUintC_rw (u := T) (d := d) (cx := cx) (mem := mem) (K := K) ⟨((ht.mono hle.fact).mono (sub_now _ _)).p, by omega⟩
                  have hW : memW m = A4 m ++ [MW.time (T : Int)] ++ [MW.ran] := by rw [hmW, hr, hf]; simp [h0, Nat.pos_of_ne_zero h0]
                  rw [hW] at hshort eZ
                  simp (maxSteps := 4000000) -dsimp [-Y1, -Array.all_eq_true, -Y3, -Y4, and_assoc, Y5, Tryz.f15, devSizeC, memBitC, iDevTextC, itoaC, markC, sameRealC, iRealTextC, fmtUintC, joinC, j3, j1, hT, w1, h0, t2, hr, hf, txt_eta, joinC, Con.readW]
                  (repeat with_reducible refine And.intro (by omega) ?_)
                  skip
                  intro cx0 p0 hle0 hlit0
                  rw [RdL.sl (hlit0.mono ((sub_new cx0).trans (sub_now _ _))) (by rfl)]
                  unfold GrowV
                  have e0 := WB_take (A4 m) pad2
                  have e1 := WB_full hpad hWc
                  simp (maxSteps := 4000000) -dsimp [-Y1, -Array.all_eq_true, -Y3, -Y4, and_assoc, Y5, Tryz.f15, devSizeC, memBitC, iDevTextC, itoaC, markC, sameRealC, iRealTextC, fmtUintC, joinC, j3, j1, e0, e1, hT, w1, h0, t2, hr, hf, txt_eta, joinC, Con.readW]
                  refine ⟨hWc, hcp, by unfold maxLen; (try simp only [List.length_append, List.length_cons, List.length_nil]); omega, by (try simp only [List.length_append, List.length_cons, List.length_nil]); omega, ?_⟩
                  clear e0 e1 hpad hWc hcp
                  rintro b2 cp2 pad2 hWc hcp hpad
                  have ez : (116 :: 105 :: 109 :: 101 :: 61 :: decL T : Str) = (MW.time (T : Int)).text := by show _ = [116, 105, 109, 101, 61] ++ decZ (T : Int); rw [eT]; rfl
                  obtain ⟨V0, hV0⟩ : ∃ V, V = A4 m ++ [MW.time (T : Int)] := ⟨_, rfl⟩
                  have el : (A4 m).length + 1 = V0.length := by rw [hV0]; simp
                  rw [el] at hWc hpad
                  have hWl0 : V0.length ≤ 401 := by rw [← el]; omega
                  rw [← hV0] at hshort eZ
                  rw [ez, WB_push, ← hV0, el]
                  skip
                  intro cx1 p1 hle1 hlit1
                  rw [RdL.sl (hlit1.mono ((sub_new cx1).trans (sub_now _ _))) (by rfl)]
                  unfold GrowV
                  have e0 := WB_take (V0) pad2
                  have e1 := WB_full hpad hWc
                  simp (maxSteps := 4000000) -dsimp [-Y1, -Array.all_eq_true, -Y3, -Y4, and_assoc, Y5, Tryz.f15, devSizeC, memBitC, iDevTextC, itoaC, markC, sameRealC, iRealTextC, fmtUintC, joinC, j3, j1, e0, e1, hT, w1, h0, t2, hr, hf, txt_eta, joinC, Con.readW]
                  refine ⟨hWc, hcp, by unfold maxLen; (try simp only [List.length_append, List.length_cons, List.length_nil]); omega, by (try simp only [List.length_append, List.length_cons, List.length_nil]); omega, ?_⟩
                  clear e0 e1 hpad hWc hcp
                  rintro b2 cp2 pad2 hWc hcp hpad
                  have ez : ([114, 97, 110] : Str) = (MW.ran).text := rfl
                  obtain ⟨V1, hV1⟩ : ∃ V, V = V0 ++ [MW.ran] := ⟨_, rfl⟩
                  have el : (V0).length + 1 = V1.length := by rw [hV1]; simp
                  rw [el] at hWc hpad
                  have hWl1 : V1.length ≤ 402 := by rw [← el]; omega
                  rw [← hV1] at hshort eZ
                  rw [ez, WB_push, ← hV1, el]
                  refine join_WB rfl hWc (by omega) hshort ?_
                  rw [← eZ]
                  simp (maxSteps := 4000000) -dsimp [-Y1, -Array.all_eq_true, -Y3, -Y4, and_assoc, Y5, Tryz.f15, devSizeC, memBitC, iDevTextC, itoaC, markC, sameRealC, iRealTextC, fmtUintC, joinC, ]
                  exact ⟨((hle.trans hle0).trans hle1).w0, ((hle.trans hle0).trans hle1).g0⟩
                · skip
                  have t2 := fun (d : Nat) (mem : List Blk) (K : C → Prop) => fmtUintC_rw (u := T) (d := d) (cx := cx) (mem := mem) (K := K) ⟨((ht.mono hle.fact).mono (sub_now _ _)).p, by omega⟩
                  have hW : memW m = A4 m ++ [MW.time (T : Int)] ++ [MW.ran] ++ [MW.fault] := by rw [hmW, hr, hf]; simp [h0, Nat.pos_of_ne_zero h0]
                  rw [hW] at hshort eZ
                  simp (maxSteps := 4000000) -dsimp [-Y1, -Array.all_eq_true, -Y3, -Y4, and_assoc, Y5, Tryz.f15, devSizeC, memBitC, iDevTextC, itoaC, markC, sameRealC, iRealTextC, fmtUintC, joinC, j3, j1, hT, w1, h0, t2, hr, hf, txt_eta, joinC, Con.readW]
                  (repeat with_reducible refine And.intro (by omega) ?_)
                  skip
                  intro cx0 p0 hle0 hlit0
                  rw [RdL.sl (hlit0.mono ((sub_new cx0).trans (sub_now _ _))) (by rfl)]
                  unfold GrowV
                  have e0 := WB_take (A4 m) pad2
                  have e1 := WB_full hpad hWc
                  simp (maxSteps := 4000000) -dsimp [-Y1, -Array.all_eq_true, -Y3, -Y4, and_assoc, Y5, Tryz.f15, devSizeC, memBitC, iDevTextC, itoaC, markC, sameRealC, iRealTextC, fmtUintC, joinC, j3, j1, e0, e1, hT, w1, h0, t2, hr, hf, txt_eta, joinC, Con.readW]
                  refine ⟨hWc, hcp, by unfold maxLen; (try simp only [List.length_append, List.length_cons, List.length_nil]); omega, by (try simp only [List.length_append, List.length_cons, List.length_nil]); omega, ?_⟩
                  clear e0 e1 hpad hWc hcp
                  rintro b2 cp2 pad2 hWc hcp hpad
                  have ez : (116 :: 105 :: 109 :: 101 :: 61 :: decL T : Str) = (MW.time (T : Int)).text := by show _ = [116, 105, 109, 101, 61] ++ decZ (T : Int); rw [eT]; rfl
                  obtain ⟨V0, hV0⟩ : ∃ V, V = A4 m ++ [MW.time (T : Int)] := ⟨_, rfl⟩
                  have el : (A4 m).length + 1 = V0.length := by rw [hV0]; simp
                  rw [el] at hWc hpad
                  have hWl0 : V0.length ≤ 401 := by rw [← el]; omega
                  rw [← hV0] at hshort eZ
                  rw [ez, WB_push, ← hV0, el]
                  skip
                  intro cx1 p1 hle1 hlit1
                  rw [RdL.sl (hlit1.mono ((sub_new cx1).trans (sub_now _ _))) (by rfl)]
                  unfold GrowV
                  have e0 := WB_take (V0) pad2
                  have e1 := WB_full hpad hWc
                  simp (maxSteps := 4000000) -dsimp [-Y1, -Array.all_eq_true, -Y3, -Y4, and_assoc, Y5, Tryz.f15, devSizeC, memBitC, iDevTextC, itoaC, markC, sameRealC, iRealTextC, fmtUintC, joinC, j3, j1, e0, e1, hT, w1, h0, t2, hr, hf, txt_eta, joinC, Con.readW]
                  refine ⟨hWc, hcp, by unfold maxLen; (try simp only [List.length_append, List.length_cons, List.length_nil]); omega, by (try simp only [List.length_append, List.length_cons, List.length_nil]); omega, ?_⟩
                  clear e0 e1 hpad hWc hcp
                  rintro b2 cp2 pad2 hWc hcp hpad
                  have ez : ([114, 97, 110] : Str) = (MW.ran).text := rfl
                  obtain ⟨V1, hV1⟩ : ∃ V, V = V0 ++ [MW.ran] := ⟨_, rfl⟩
                  have el : (V0).length + 1 = V1.length := by rw [hV1]; simp
                  rw [el] at hWc hpad
                  have hWl1 : V1.length ≤ 402 := by rw [← el]; omega
                  rw [← hV1] at hshort eZ
                  rw [ez, WB_push, ← hV1, el]
                  skip
                  intro cx2 p2 hle2 hlit2
                  rw [RdL.sl (hlit2.mono ((sub_new cx2).trans (sub_now _ _))) (by rfl)]
                  unfold GrowV
                  have e0 := WB_take (V1) pad2
                  have e1 := WB_full hpad hWc
                  simp (maxSteps := 4000000) -dsimp [-Y1, -Array.all_eq_true, -Y3, -Y4, and_assoc, Y5, Tryz.f15, devSizeC, memBitC, iDevTextC, itoaC, markC, sameRealC, iRealTextC, fmtUintC, joinC, j3, j1, e0, e1, hT, w1, h0, t2, hr, hf, txt_eta, joinC, Con.readW]
                  refine ⟨hWc, hcp, by unfold maxLen; (try simp only [List.length_append, List.length_cons, List.length_nil]); omega, by (try simp only [List.length_append, List.length_cons, List.length_nil]); omega, ?_⟩
                  clear e0 e1 hpad hWc hcp
                  rintro b2 cp2 pad2 hWc hcp hpad
                  have ez : ([102, 97, 117, 108, 116] : Str) = (MW.fault).text := rfl
                  obtain ⟨V2, hV2⟩ : ∃ V, V = V1 ++ [MW.fault] := ⟨_, rfl⟩
                  have el : (V1).length + 1 = V2.length := by rw [hV2]; simp
                  rw [el] at hWc hpad
                  have hWl2 : V2.length ≤ 403 := by rw [← el]; omega
                  rw [← hV2] at hshort eZ
                  rw [ez, WB_push, ← hV2, el]
                  refine join_WB rfl hWc (by omega) hshort ?_
                  rw [← eZ]
                  simp (maxSteps := 4000000) -dsimp [-Y1, -Array.all_eq_true, -Y3, -Y4, and_assoc, Y5, Tryz.f15, devSizeC, memBitC, iDevTextC, itoaC, markC, sameRealC, iRealTextC, fmtUintC, joinC, ]
                  exact ⟨(((hle.trans hle0).trans hle1).trans hle2).w0, (((hle.trans hle0).trans hle1).trans hle2).g0⟩
def iMemTextC_S : Reads Tryz.prog 15 where
  ι := ((M))
  A := fun (m : ((M))) => [.agg (cells m)]
  pre := fun (m : ((M))) (F : Facts) => TT F ∧ MOk m
  res := fun (m : ((M))) => .string (txt (memL m))
  mono := by
    intro i F G hs h
    first | exact h | exact h.mono hs | exact ⟨h.1.mono hs, h.2⟩ | exact ⟨h.1.mono hs, h.2.1.mono hs, h.2.2⟩ | exact ⟨h.1.mono hs, h.2.1.mono hs⟩ | exact ⟨h.1.mono hs, h.2.1.mono hs, h.2.2.1.mono hs, h.2.2.2⟩
  uniq := by
    rintro m m' F hA h h'
    simp at hA
    (try simp only [Int.natCast_inj] at hA)
    simp_all
  enter := Tryz.call15
  h := fun m w hp => iMemTextC_c m w (by rw [factF_init]; exact hp)
def iMemTextC : Con Tryz.prog := Con.read iMemTextC_S
theorem iMemTextC_rw {m : M} {d : Nat} {cx : Cx} {mem : List Blk} {K : C → Prop} (hpre : TT (nowF cx mem) ∧ MOk m) : ReadV d iMemTextC_S cx [.v (.agg (cells m))] mem K = K (.v (.string (txt (memL m)))) := iMemTextC_S.eq m rfl hpre
end Go.Proofs.YtclbanhoiaieaaaGreatDoor
