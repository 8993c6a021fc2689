/-
  Contracts: texts of operands and of memories, by the reference.
-/
import Derived.Test.YtmlmmaojomghdaaDoorTmtt
set_option linter.unusedVariables false
set_option linter.unusedSimpArgs false
set_option maxRecDepth 100000
set_option maxHeartbeats 4000000
namespace Go.Proofs.YtmlmmaojomghdaaDoor
open Go Go.Sx
attribute [local simp] Sx.vcsE1 Sx.vcsE2 Sx.vcsE3 Sx.vcsE4 Sx.vcsE5 Sx.vcsE6 Sx.vcsE7 Sx.vcsE8 Sx.vcsE9 Sx.vcsE10 Sx.vcsE11 Sx.vcsE12 Sx.vcsE13 Sx.vcsE14 Sx.vcsE15 Sx.vcsE16 Sx.vcsE17 Sx.vcsE18 Sx.vcsE19 Sx.get Sx.look Sx.put Sx.pureFn Sx.findOrd Sx.unF Sx.dstOk Sx.isFloatT Sx.endVC Sx.resFn Sx.packC Sx.newFn Sx.storeFn Sx.buildFn Sx.known Sx.aggT Sx.cellsC Sx.findCon Sx.allV Sx.partsV Sx.partsC Sx.fillL Sx.exitTo Sx.fAr Sx.eqFn Sx.eqFieldsFn Sx.eqElemsFn Sx.partFn Sx.sliceFn Sx.boundFn Sx.AppV Sx.CopyV Sx.MakeSliceV Sx.NewsV Sx.GrowV Sx.TextV Sx.bytesL Sx.notInt Sx.typeAt Sx.argAt Sx.den Go.undef Go.Value.cells Go.Value.oneCell' Sx.Con.pure Sx.Con.some Sx.Con.read Sx.Con.make Sx.Con.ext Sx.Con.rel Sx.Con.extS Sx.Con.draw Sx.Con.step Sx.C.one Sx.Draws.steps

theorem sDevLetterC_c (k : Int) (w : World) : Calls Tryd.prog 63 #[.int .i64 k] w fun e w' => e = .returned (.string (txt (if 1 ≤ k ∧ k ≤ 10 then [letterU k] else []))) ∧ RowKit.Below w.heap.size w w' := by
  refine (plain_of_vcs ⟨[sDevSizeC], []⟩ hmx Tryd.func63 rfl (by kernel_rfl) (args := [.int .i64 k]) (by simp [Tryd.ntmps63]) w (· = .string (txt (if 1 ≤ k ∧ k ≤ 10 then [letterU k] else []))) 400 ?_).mono fun e w' ⟨v, h1, h2, h3⟩ => ⟨h2 ▸ h1, h3⟩
  by_cases hk : 1 ≤ k ∧ k ≤ 10
  · rw [if_pos hk]
    have hd := (devSize_pos hk.1 hk.2).1
    have h0 : ¬ devSize k = 0 := by omega
    have e1 : IntKind.i64.wrap (k - 1) = k - 1 := wrap_i64 (by omega) (by omega)
    have e3 := letter_sub hk
    have e4 : (⟨#[88, 89, 77, 83, 69, 71, 84, 67, 68, 82]⟩ : ByteArray) = txt letters := rfl
    have e6 : (letters.take k.toNat).drop (k.toNat - 1) = [letterU k] := by
      have a1 : k.toNat = (k - 1 + 1).toNat := by omega
      have a2 : k.toNat - 1 = (k - 1).toNat := by omega
      rw [a2, a1]; exact e3
    have e7 : letters.length = 10 := rfl
    simp (maxSteps := 4000000) -dsimp [-List.all_eq_true, -Array.all_eq_true, -Bool.exists_bool, -Bool.forall_bool, and_assoc, List.zipIdx, Tryd.f63, sDevSizeC, h0, e1, e4, e6, e7]
    omega
  · rw [if_neg hk]
    have h0 := devSize_out (k := k) (by omega)
    simp (maxSteps := 4000000) -dsimp [-List.all_eq_true, -Array.all_eq_true, -Bool.exists_bool, -Bool.forall_bool, and_assoc, List.zipIdx, Tryd.f63, sDevSizeC, h0, txt_eta]
def sDevLetterC : Con Tryd.prog := Con.pure 63 Tryd.call63 (fun (k : ((Int))) => [.int .i64 k]) (fun (k : ((Int))) => True) (fun (k : ((Int))) => .string (txt (if 1 ≤ k ∧ k ≤ 10 then [letterU k] else []))) fun k w _ => sDevLetterC_c k w
structure IsW4 (F : Facts) (v : Value) : Prop where
  ex : ∃ a, v = .slice (some a) 4 4 ∧ RdL F (some a) (words4.map fun z => .string (txt z))
theorem IsW4.mono {F G : Facts} {v : Value} (h : IsW4 F v) (hs : Sub F G) : IsW4 G v := by
  obtain ⟨a, h1, h2⟩ := h.ex
  exact ⟨a, h1, RdL.mono h2 hs⟩
def wS (W : List MW) : Str := (W.map fun z => z.text ++ [32]).flatten
theorem wS_snoc (W : List MW) (z : MW) : wS (W ++ [z]) = wS W ++ (z.text ++ [32]) := by simp [wS]
theorem wS_app (W V : List MW) : wS (W ++ V) = wS W ++ wS V := by simp [wS]
theorem wS_cut (W : List MW) : (wS W).dropLast = joinL 32 (W.map MW.text) := by
  rw [← joinL_dropLast]
  unfold wS
  rw [List.map_map]
  rfl
theorem wS_len {W : List MW} (h : ∀ z ∈ W, z.text.length ≤ 90) : (wS W).length ≤ W.length * 91 := by
  have := flat_len (ws := W.map fun z => z.text ++ [32]) (b := 91) (by
    intro x hx
    obtain ⟨z, hz, rfl⟩ := List.mem_map.1 hx
    have := h z hz
    simp; omega)
  simpa [wS] using this
theorem l5MarkC_c (b : Bool) (l : Str) (w : World) : Calls Tryd.prog 30 #[.bool b, .string (txt l)] w fun e w' => e = .returned (.string (txt (if b then l else []))) ∧ RowKit.Below w.heap.size w w' := by
  refine (plain_of_vcs ⟨[], []⟩ hmx Tryd.func30 rfl (by kernel_rfl) (args := [.bool b, .string (txt l)]) (by simp [Tryd.ntmps30]) w (· = .string (txt (if b then l else []))) 400 ?_).mono fun e w' ⟨v, h1, h2, h3⟩ => ⟨h2 ▸ h1, h3⟩
  cases b <;> simp (maxSteps := 4000000) -dsimp [-List.all_eq_true, -Array.all_eq_true, -Bool.exists_bool, -Bool.forall_bool, and_assoc, List.zipIdx, Tryd.f30, txt_eta]
def l5MarkC : Con Tryd.prog := Con.pure 30 Tryd.call30 (fun (i : ((Bool) × (Str))) => match i with | (b, l) => [.bool b, .string (txt l)]) (fun (i : ((Bool) × (Str))) => match i with | (b, l) => True) (fun (i : ((Bool) × (Str))) => match i with | (b, l) => .string (txt (if b then l else []))) fun i w _ => l5MarkC_c i.1 i.2 w
theorem l5DevC_c (k : Int) (n : Nat) (l : Str) (hpre : 1 ≤ k ∧ k ≤ 10 ∧ n ≤ 100 ∧ l.length ≤ 1000) (w : World) : Calls Tryd.prog 28 #[.int .i64 k, .int .i64 n, .string (txt l)] w fun e w' => e = .returned (.string (txt (letterU k :: (decL n ++ (l ++ [32]))))) ∧ RowKit.Below w.heap.size w w' := by
  refine (plain_of_vcs ⟨[sDevLetterC, sDecC], []⟩ hmx Tryd.func28 rfl (by kernel_rfl) (args := [.int .i64 k, .int .i64 n, .string (txt l)]) (by simp [Tryd.ntmps28]) w (· = .string (txt (letterU k :: (decL n ++ (l ++ [32]))))) 400 ?_).mono fun e w' ⟨v, h1, h2, h3⟩ => ⟨h2 ▸ h1, h3⟩
  obtain ⟨h1, h2, h3, h4⟩ := hpre
  have ei : decZ (n : Int) = decL n := by unfold decZ; rw [if_neg (by omega)]; rfl
  have hr1 : (-9223372036854775807 : Int) ≤ n := by omega
  have hr2 : (n : Int) ≤ 9223372036854775807 := by omega
  have hl := decL_len n 2 (by omega)
  simp (maxSteps := 4000000) -dsimp [-List.all_eq_true, -Array.all_eq_true, -Bool.exists_bool, -Bool.forall_bool, and_assoc, List.zipIdx, Tryd.f28, sDevLetterC, sDecC, h1, h2, hr1, hr2, ei, txt_eta]
  omega
def l5DevC : Con Tryd.prog := Con.pure 28 Tryd.call28 (fun (i : ((Int) × (Nat) × (Str))) => match i with | (k, n, l) => [.int .i64 k, .int .i64 n, .string (txt l)]) (fun (i : ((Int) × (Nat) × (Str))) => match i with | (k, n, l) => 1 ≤ k ∧ k ≤ 10 ∧ n ≤ 100 ∧ l.length ≤ 1000) (fun (i : ((Int) × (Nat) × (Str))) => match i with | (k, n, l) => .string (txt (letterU k :: (decL n ++ (l ++ [32]))))) fun i w hp => l5DevC_c i.1 i.2.1 i.2.2 hp w
theorem l5BitsC_c (m : M) (k : Int) (hpre : MOk m ∧ 1 ≤ k ∧ k ≤ 5) (w : World) : Calls Tryd.prog 27 #[.agg (cells m), .int .i64 k] w fun e w' => e = .returned (.string (txt (wS (preW (fun (n : Nat) => memBit m k n) (.bit k) (devSize k).toNat)))) ∧ RowKit.Below w.heap.size w w' := by
  refine (plain_of_vcs ⟨[sDevSizeC, sMemBitC, l5DevC], []⟩ hmx Tryd.func27 rfl (by kernel_rfl) (args := [.agg (cells m), .int .i64 k]) (by simp [Tryd.ntmps27]) w (· = .string (txt (wS (preW (fun (n : Nat) => memBit m k n) (.bit k) (devSize k).toNat)))) 600 ?_).mono fun e w' ⟨v, h1, h2, h3⟩ => ⟨h2 ▸ h1, h3⟩
  obtain ⟨hm, hk1, hk5⟩ := hpre
  have hk10 : k ≤ 10 := by omega
  obtain ⟨N, hN⟩ : ∃ N : Nat, devSize k = N := ⟨(devSize k).toNat, by have := devSize_bd k; omega⟩
  have hN64 : N ≤ 64 := by have := devSize_le k; omega
  obtain ⟨p, hp⟩ : ∃ p : Nat → Bool, p = fun (n : Nat) => memBit m k n := ⟨_, rfl⟩
  rw [← hp, hN, Int.toNat_natCast]
  simp (maxSteps := 4000000) -dsimp [-List.all_eq_true, -Array.all_eq_true, -Bool.exists_bool, -Bool.forall_bool, and_assoc, List.zipIdx, Tryd.f27, sDevSizeC, sMemBitC, l5DevC, txt_eta]
  intro b0
  refine loop_inv (σ := ⟨[sDevSizeC, sMemBitC, l5DevC], []⟩) hmx (by kernel_rfl) (fun q cx tm mem => cx = ⟨w, [], w, []⟩ ∧ ∃ n : Nat, q = N - n ∧ n ≤ N ∧ (wS (preW p (.bit k) n)).length ≤ 100 * n ∧ mem = [⟨b0, cellC m, 45⟩] ∧ Sx.look tm 6 = .v (.int .i64 n) ∧ Sx.look tm 5 = .v (.string (txt (wS (preW p (.bit k) n)))) ∧ Sx.look tm 2 = .p 0 b0 0 ∧ Sx.look tm 1 = .v (.int .i64 k))
    N ⟨rfl, 0, by omega, by omega, by simp [preW, wS], rfl, by simp [Sx.look], by simp [Sx.look, preW, wS, txt_eta], by simp [Sx.look], by simp [Sx.look]⟩ ?_
  rintro q cx tm mem ⟨rfl, n, rfl, hn, hb, rfl, j6, j5, j2, j1⟩
  refine ⟨600, ?_⟩
  by_cases hlt : n < N
  · have hbp : memBit m k n = p n := by rw [hp]
    have n100 : n ≤ 100 := by omega
    have n1 := decL_len n 1 (by omega)
    have e := preW_succ p (.bit k) n
    cases hq : p n
    · rw [hq, if_neg (by decide), List.append_nil] at e
      simp (maxSteps := 4000000) -dsimp [-List.all_eq_true, -Array.all_eq_true, -Bool.exists_bool, -Bool.forall_bool, and_assoc, List.zipIdx, Tryd.f27, sDevSizeC, sMemBitC, l5DevC, j6, j5, j2, j1, hlt, hN, hbp, hq, hm, hk1, hk10, n100, i_succ (i := n) (by omega)]
      exact ⟨⟨1, N - (n + 1), by omega, n + 1, rfl, by omega, by rw [e]; omega, rfl, by omega, by rw [e]⟩, fun h => by omega⟩
    · rw [hq, if_pos rfl] at e
      simp (maxSteps := 4000000) -dsimp [-List.all_eq_true, -Array.all_eq_true, -Bool.exists_bool, -Bool.forall_bool, and_assoc, List.zipIdx, Tryd.f27, sDevSizeC, sMemBitC, l5DevC, j6, j5, j2, j1, hlt, hN, hbp, hq, hm, hk1, hk10, n100, txt_eta, i_succ (i := n) (by omega)]
      exact ⟨⟨n, rfl, n100, by omega, 1, N - (n + 1), by omega, n + 1, rfl, by omega, by rw [e, wS_snoc]; simp [MW.text]; omega, rfl, by omega, by rw [e, wS_snoc]; simp [MW.text]⟩, fun h => by omega⟩
  · obtain rfl : n = N := by omega
    simp (maxSteps := 4000000) -dsimp [-List.all_eq_true, -Array.all_eq_true, -Bool.exists_bool, -Bool.forall_bool, and_assoc, List.zipIdx, Tryd.f27, sDevSizeC, sMemBitC, l5DevC, j6, j5, j2, j1, hN]
def l5BitsC : Con Tryd.prog := Con.pure 27 Tryd.call27 (fun (i : ((M) × (Int))) => match i with | (m, k) => [.agg (cells m), .int .i64 k]) (fun (i : ((M) × (Int))) => match i with | (m, k) => MOk m ∧ 1 ≤ k ∧ k ≤ 5) (fun (i : ((M) × (Int))) => match i with | (m, k) => .string (txt (wS (preW (fun (n : Nat) => memBit m k n) (.bit k) (devSize k).toNat)))) fun i w hp => l5BitsC_c i.1 i.2 hp w
theorem realL_zero {x : Nat} (hx : x < 18446744073709551616) (h : sameFB x 0 = false) : ¬ realL x = [48] := by
  intro e
  have e0 : realL 0 = [48] := by rw [realL_fields 0 (by decide)]; decide
  rw [← e0] at e
  have h1 := realL_eq hx (b := 0) (by decide)
  rw [e, h] at h1
  simp at h1
end Go.Proofs.YtmlmmaojomghdaaDoor
