/-
  Contracts: texts of operands and of memories, by the reference.
-/
import Derived.Test.YtclbanhoiaieaaaGreatDoorTmvc
set_option linter.unusedVariables false
set_option linter.unusedSimpArgs false
set_option maxRecDepth 100000
set_option maxHeartbeats 4000000
namespace Go.Proofs.YtclbanhoiaieaaaGreatDoor
open Go Go.Sx
open List renaming all_eq_true → Y1, zipIdx → Y5
open Bool renaming exists_bool → Y3, forall_bool → Y4
attribute [local simp] Sx.vcsE1 Sx.vcsE2 Sx.vcsE3 Sx.vcsE4 Sx.vcsE5 Sx.vcsE6 Sx.vcsE7 Sx.vcsE8 Sx.vcsE9 Sx.vcsE10 Sx.vcsE11 Sx.vcsE12 Sx.vcsE13 Sx.vcsE14 Sx.vcsE15 Sx.vcsE16 Sx.vcsE17 Sx.vcsE18 Sx.vcsE19 Sx.get Sx.look Sx.put Sx.pureFn Sx.findOrd Sx.unF Sx.dstOk Sx.isFloatT Sx.endVC Sx.resFn Sx.packC Sx.newFn Sx.storeFn Sx.buildFn Sx.known Sx.aggT Sx.cellsC Sx.findCon Sx.allV Sx.partsV Sx.partsC Sx.fillL Sx.exitTo Sx.fAr Sx.eqFn Sx.eqFieldsFn Sx.eqElemsFn Sx.partFn Sx.sliceFn Sx.boundFn Sx.AppV Sx.CopyV Sx.MakeSliceV Sx.NewsV Sx.GrowV Sx.TextV Sx.bytesL Sx.notInt Sx.typeAt Sx.argAt Sx.den Go.undef Go.Value.cells Go.Value.oneCell' Sx.Con.pure Sx.Con.some Sx.Con.read Sx.Con.make Sx.Con.ext Sx.Con.rel Sx.Con.extS Sx.Con.draw Sx.Con.step Sx.C.one Sx.Draws.steps

theorem sDevLetterC_c (k : Int) (w : World) : Calls Tryz.prog 174 #[.int .i64 k] w fun e w' => e = .returned (.string (txt (if 1 ≤ k ∧ k ≤ 10 then [letterU k] else []))) ∧ RowKit.Below w.heap.size w w' := by
  refine (plain_of_vcs ⟨[sDevSizeC], []⟩ hmx Tryz.func174 rfl (by kernel_rfl) (args := [.int .i64 k]) (by simp [Tryz.ntmps174]) w (· = .string (txt (if 1 ≤ k ∧ k ≤ 10 then [letterU k] else []))) 400 ?_).mono fun e w' ⟨v, h1, h2, h3⟩ => ⟨h2 ▸ h1, h3⟩
  by_cases hk : 1 ≤ k ∧ k ≤ 10
  · rw [if_pos hk]
    have hd := (devSize_pos hk.1 hk.2).1
    have h0 : ¬ devSize k = 0 := by omega
    have e1 : IntKind.i64.wrap (k - 1) = k - 1 := wrap_i64 (by omega) (by omega)
    have e3 := letter_sub hk
    have e4 : (⟨#[88, 89, 77, 83, 69, 71, 84, 67, 68, 82]⟩ : ByteArray) = txt letters := rfl
    have e6 : (letters.take k.toNat).drop (k.toNat - 1) = [letterU k] := by
      have a1 : k.toNat = (k - 1 + 1).toNat := by omega
      have a2 : k.toNat - 1 = (k - 1).toNat := by omega
      rw [a2, a1]; exact e3
    have e7 : letters.length = 10 := rfl
    simp (maxSteps := 4000000) -dsimp [-Y1, -Array.all_eq_true, -Y3, -Y4, and_assoc, Y5, Tryz.f174, sDevSizeC, h0, e1, e4, e6, e7]
    omega
  · rw [if_neg hk]
    have h0 := devSize_out (k := k) (by omega)
    simp (maxSteps := 4000000) -dsimp [-Y1, -Array.all_eq_true, -Y3, -Y4, and_assoc, Y5, Tryz.f174, sDevSizeC, h0, txt_eta]
def sDevLetterC : Con Tryz.prog := Con.pure 174 Tryz.call174 (fun (k : ((Int))) => [.int .i64 k]) (fun (k : ((Int))) => True) (fun (k : ((Int))) => .string (txt (if 1 ≤ k ∧ k ≤ 10 then [letterU k] else []))) fun k w _ => sDevLetterC_c k w
structure IsW4 (F : Facts) (v : Value) : Prop where
  ex : ∃ a, v = .slice (some a) 4 4 ∧ RdL F (some a) (words4.map fun z => .string (txt z))
theorem IsW4.mono {F G : Facts} {v : Value} (h : IsW4 F v) (hs : Sub F G) : IsW4 G v := by
  obtain ⟨a, h1, h2⟩ := h.ex
  exact ⟨a, h1, RdL.mono h2 hs⟩
theorem l2WordsC_c (z : Unit) (w : World) (hpre : True) : Calls Tryz.prog 173 #[] w fun e w' => ∃ v, e = .returned v ∧ RowKit.Below w.heap.size w w' ∧ IsW4 (fun a => if w.heap.size ≤ a.block then w'.cell? a else none) v := by
  refine make_of_vcs ⟨[], []⟩ hmx Tryz.func173 rfl (by kernel_rfl) (args := []) (by simp [Tryz.ntmps173]) w (fun v F => IsW4 F v) 400 ?_
  simp (maxSteps := 4000000) -dsimp [-Y1, -Array.all_eq_true, -Y3, -Y4, and_assoc, Y5, Tryz.f173]
  intro cx1 p hle hl
  obtain ⟨a, rfl, _⟩ := hl 0 _ rfl
  exact ⟨hle.w0, hle.g0, fun w' hm => ⟨⟨a, rfl, RdL.mono hl (sub_end hle.w0 hm)⟩⟩⟩
def l2WordsC_S : Makes Tryz.prog 173 where
  ι := ((Unit))
  A := fun (z : ((Unit))) => []
  pre := fun (z : ((Unit))) (F : Facts) => True
  post := fun (z : ((Unit))) (v : Value) (F : Facts) => IsW4 F v
  mono := by
    intro i F G hs h
    first | exact h | exact h.mono hs | exact ⟨h.1.mono hs, h.2⟩ | exact ⟨h.1.mono hs, h.2.1.mono hs, h.2.2⟩ | exact ⟨h.1.mono hs, h.2.1.mono hs⟩ | exact ⟨h.1.mono hs, h.2.1.mono hs, h.2.2.1.mono hs, h.2.2.2⟩
  monoP := fun i v F G hs h => h.mono hs
  enter := Tryz.call173
  h := fun z w hp => l2WordsC_c z w hp
def l2WordsC : Con Tryz.prog := Con.make l2WordsC_S
theorem l2DecPC_c (n : Int) (p : Nat) (hpre : 0 ≤ n ∧ n ≤ 999999999 ∧ p ≤ 6) (w : World) : Calls Tryz.prog 172 #[.int .i64 n, .int .i64 p] w fun e w' => e = .returned (.string (txt (fracS p (padS p (decL n.natAbs))))) ∧ RowKit.Below w.heap.size w w' := by
  refine (plain_of_vcs ⟨[sDecC], []⟩ hmx Tryz.func172 rfl (by kernel_rfl) (args := [.int .i64 n, .int .i64 p]) (by simp [Tryz.ntmps172]) w (· = .string (txt (fracS p (padS p (decL n.natAbs))))) 400 ?_).mono fun e w' ⟨v, h1, h2, h3⟩ => ⟨h2 ▸ h1, h3⟩
  obtain ⟨h1, h2, h3⟩ := hpre
  have hl9 := decL_len n.natAbs 8 (by omega)
  have hl1 := decL_len1 n.natAbs
  have hvz : decZ n = decL n.natAbs := by unfold decZ; rw [if_neg (by omega)]
  have hn : ¬ n < 0 := by omega
  have hr : (-9223372036854775807 ≤ n ∧ n ≤ 9223372036854775807) := by omega
  simp (maxSteps := 4000000) -dsimp [-Y1, -Array.all_eq_true, -Y3, -Y4, and_assoc, Y5, Tryz.f172, sDecC, hn, hr, hvz, txt_eta]
  refine loop_inv (σ := ⟨[sDecC], []⟩) hmx (by kernel_rfl) (fun q cx tm mem => cx = ⟨w, [], w, []⟩ ∧ mem = [] ∧ ∃ k : Nat, q = (p + 1 - (decL n.natAbs).length) - k ∧ k ≤ p + 1 - (decL n.natAbs).length ∧ Sx.look tm 5 = .v (.string (txt (List.replicate k 48 ++ decL n.natAbs))) ∧ Sx.look tm 1 = .v (.int .i64 p))
    (p + 1 - (decL n.natAbs).length) ⟨rfl, rfl, 0, by omega, by omega, by simp [Sx.look], by simp [Sx.look]⟩ ?_
  rintro q cx tm mem ⟨rfl, rfl, k, hq, hk, j5, j1⟩
  refine ⟨300, ?_⟩
  by_cases hlt : k < p + 1 - (decL n.natAbs).length
  · have h1 : (k : Int) + ((decL n.natAbs).length : Int) ≤ p := by omega
    simp (maxSteps := 4000000) -dsimp [-Y1, -Array.all_eq_true, -Y3, -Y4, and_assoc, Y5, Tryz.f172, sDecC, j5, j1, h1, txt_eta]
    exact ⟨by omega, p + 1 - (decL n.natAbs).length - (k + 1), by omega, k + 1, by omega, by omega, by rw [List.replicate_succ]; rfl⟩
  · obtain rfl : k = p + 1 - (decL n.natAbs).length := by omega
    have e4 : List.replicate (p + 1 - (decL n.natAbs).length) 48 ++ decL n.natAbs = padS p (decL n.natAbs) := rfl
    rw [e4] at j5
    have hpl := padS_len p (decL n.natAbs)
    unfold fracS
    generalize padS p (decL n.natAbs) = l at *
    have h1 : ¬ (l.length : Int) ≤ p := by omega
    have hw3 : IntKind.i64.wrap ((l.length : Int) - p) = l.length - p := wrap_i64 (by omega) (by omega)
    have hn3 : ((l.length : Int) - (p : Int)).toNat = l.length - p := by omega
    simp (maxSteps := 4000000) -dsimp [-Y1, -Array.all_eq_true, -Y3, -Y4, and_assoc, Y5, Tryz.f172, sDecC, j5, j1, h1, hw3, hn3, txt_eta]
    omega
def l2DecPC : Con Tryz.prog := Con.pure 172 Tryz.call172 (fun (i : ((Int) × (Nat))) => match i with | (n, p) => [.int .i64 n, .int .i64 p]) (fun (i : ((Int) × (Nat))) => match i with | (n, p) => 0 ≤ n ∧ n ≤ 999999999 ∧ p ≤ 6) (fun (i : ((Int) × (Nat))) => match i with | (n, p) => .string (txt (fracS p (padS p (decL n.natAbs))))) fun i w hp => l2DecPC_c i.1 i.2 hp w
theorem l2DecNC_c (n : Int) (p : Nat) (hpre : -999999999 ≤ n ∧ n < 0 ∧ p ≤ 6) (w : World) : Calls Tryz.prog 172 #[.int .i64 n, .int .i64 p] w fun e w' => e = .returned (.string (txt (45 :: fracS p (padS p (decL n.natAbs))))) ∧ RowKit.Below w.heap.size w w' := by
  refine (plain_of_vcs ⟨[l2DecPC], []⟩ hmx Tryz.func172 rfl (by kernel_rfl) (args := [.int .i64 n, .int .i64 p]) (by simp [Tryz.ntmps172]) w (· = .string (txt (45 :: fracS p (padS p (decL n.natAbs))))) 400 ?_).mono fun e w' ⟨v, h1, h2, h3⟩ => ⟨h2 ▸ h1, h3⟩
  obtain ⟨h1, h2, h3⟩ := hpre
  have hl9 := decL_len n.natAbs 8 (by omega)
  have hpl := padS_len p (decL n.natAbs)
  have hfl : (fracS p (padS p (decL n.natAbs))).length = (padS p (decL n.natAbs)).length + 1 := by unfold fracS; simp; omega
  have e1 : IntKind.i64.wrap (-n) = -n := wrap_i64 (by omega) (by omega)
  have e2 : (-n).natAbs = n.natAbs := by omega
  have e3 : 0 ≤ -n ∧ -n ≤ 999999999 ∧ p ≤ 6 := by omega
  have e4 := e3.1
  have e5 := e3.2.1
  simp (maxSteps := 4000000) -dsimp [-Y1, -Array.all_eq_true, -Y3, -Y4, and_assoc, Y5, Tryz.f172, l2DecPC, h2, e1, e2, e4, e5, h3, txt_eta]
  exact ⟨p, rfl, by omega, h3, by omega, rfl⟩
theorem l2DecC_c (n : Int) (p : Nat) (hpre : -999999999 ≤ n ∧ n ≤ 999999999 ∧ p ≤ 6) (w : World) : Calls Tryz.prog 172 #[.int .i64 n, .int .i64 p] w fun e w' => e = .returned (.string (txt (decT n p))) ∧ RowKit.Below w.heap.size w w' := by
  by_cases hn : n < 0
  · have e : decT n p = 45 :: fracS p (padS p (decL n.natAbs)) := by unfold decT; rw [if_pos hn]; rfl
    rw [e]
    exact l2DecNC_c n p ⟨hpre.1, hn, hpre.2.2⟩ w
  · have e : decT n p = fracS p (padS p (decL n.natAbs)) := by unfold decT; rw [if_neg hn]; rfl
    rw [e]
    exact l2DecPC_c n p ⟨by omega, hpre.2⟩ w
def l2DecC : Con Tryz.prog := Con.pure 172 Tryz.call172 (fun (i : Int × Nat) => [.int .i64 i.1, .int .i64 i.2]) (fun (i : Int × Nat) => -999999999 ≤ i.1 ∧ i.1 ≤ 999999999 ∧ i.2 ≤ 6) (fun (i : Int × Nat) => .string (txt (decT i.1 i.2))) fun i w hp => l2DecC_c i.1 i.2 hp w
theorem sDevTextC_c (k n p : Int) (w : World) : Calls Tryz.prog 97 #[.agg #[.int .i64 k, .int .i64 n, .int .i64 p]] w fun e w' => e = .returned (.string (txt (devL ⟨k, n, p⟩))) ∧ RowKit.Below w.heap.size w w' := by
  refine (plain_of_vcs ⟨[sDevOkC, sDecC, l2DecC, sDevLetterC, l2WordsC], [(9, [(1, false), (2, false), (0, false), (2, true), (3, false), (4, false), (5, false)])]⟩ hmx Tryz.func97 rfl (by kernel_rfl) (args := [.agg #[.int .i64 k, .int .i64 n, .int .i64 p]]) (by simp [Tryz.ntmps97]) w (· = .string (txt (devL ⟨k, n, p⟩))) 400 ?_).mono fun e w' ⟨v, h1, h2, h3⟩ => ⟨h2 ▸ h1, h3⟩
  cases hok : devOk k n p
  · have e : devL ⟨k, n, p⟩ = [] := devL_bad hok
    rw [e]
    simp (maxSteps := 4000000) -dsimp [-Y1, -Array.all_eq_true, -Y3, -Y4, and_assoc, Y5, Tryz.f97, sDevOkC, sDecC, l2DecC, sDevLetterC, l2WordsC, hok, txt_eta]
  · have e : devL ⟨k, n, p⟩ = devT ⟨k, n, p⟩ := devL_ok hok
    have hc := dOk_cases (d := ⟨k, n, p⟩) hok
    rw [e]
    simp only at hc
    have hz := devSize_le k
    have hn63 : n.natAbs ≤ 1000000000 := by omega
    have hr1 : (-9223372036854775807 ≤ n) := by omega
    have hr2 : n ≤ 9223372036854775807 := by omega
    by_cases h11 : k = 11
    · subst h11
      simp (maxSteps := 4000000) -dsimp [-Y1, -Array.all_eq_true, -Y3, -Y4, and_assoc, Y5, Tryz.f97, sDevOkC, sDecC, l2DecC, sDevLetterC, l2WordsC, hok, hr1, hr2, txt_eta]
      rfl
    · by_cases h12 : k = 12
      · subst h12
        obtain ⟨p', rfl⟩ := Int.eq_ofNat_of_zero_le (show 0 ≤ p by omega)
        have r1 : -999999999 ≤ n := by omega
        have r2 : n ≤ 999999999 := by omega
        have r3 : p' ≤ 6 := by omega
        simp (maxSteps := 4000000) -dsimp [-Y1, -Array.all_eq_true, -Y3, -Y4, and_assoc, Y5, Tryz.f97, sDevOkC, sDecC, l2DecC, sDevLetterC, l2WordsC, hok, r1, r2, r3, txt_eta]
        exact ⟨p', rfl, r3, rfl⟩
      · by_cases h13 : k = 13
        · subst h13
          have h03 : 0 ≤ n ∧ n ≤ 3 := by omega
          simp (maxSteps := 4000000) -dsimp [-Y1, -Array.all_eq_true, -Y3, -Y4, and_assoc, Y5, Tryz.f97, sDevOkC, sDecC, l2DecC, sDevLetterC, l2WordsC, hok, txt_eta]
          intro b
          refine ⟨(), rfl, trivial, ?_⟩
          rintro cx1 v hle hv
          obtain ⟨a, rfl, hl⟩ := hv.ex
          have l0 := fun (d : Nat) (mem : List Blk) (K : Value → Prop) => RdL.ld (P := Tryz.prog) (d := d) (K := K) (RdL.mono hl ((sub_new cx1).trans (sub_now cx1 mem))) (t := 9) (by kernel_rfl) (word4_at h03)
          simp (maxSteps := 4000000) -dsimp [-Y1, -Array.all_eq_true, -Y3, -Y4, and_assoc, Y5, Tryz.f97, sDevOkC, sDecC, l2DecC, sDevLetterC, l2WordsC, hok, l0, txt_eta]
          exact ⟨by omega, by omega, hle.w0, hle.g0, rfl⟩
        · have hk : 1 ≤ k ∧ k ≤ 10 := by omega
          have hl := decZ_len (n := n) (by omega)
          have et : devT ⟨k, n, p⟩ = letterU k :: decZ n := by unfold devT; simp only; rw [if_neg h11, if_neg h12, if_neg h13]
          rw [et]
          simp (maxSteps := 4000000) -dsimp [-Y1, -Array.all_eq_true, -Y3, -Y4, and_assoc, Y5, Tryz.f97, sDevOkC, sDecC, l2DecC, sDevLetterC, l2WordsC, hok, h11, h12, h13, hk, hr1, hr2, txt_eta]
          omega
def sDevTextC : Con Tryz.prog := Con.pure 97 Tryz.call97 (fun (i : ((Int) × (Int) × (Int))) => match i with | (k, n, p) => [.agg #[.int .i64 k, .int .i64 n, .int .i64 p]]) (fun (i : ((Int) × (Int) × (Int))) => match i with | (k, n, p) => True) (fun (i : ((Int) × (Int) × (Int))) => match i with | (k, n, p) => .string (txt (devL ⟨k, n, p⟩))) fun i w _ => sDevTextC_c i.1 i.2.1 i.2.2 w

def wdS (W : List MW) : Str := (W.map fun z => z.text ++ [32]).flatten
theorem wdS_snoc (W : List MW) (z : MW) : wdS (W ++ [z]) = wdS W ++ (z.text ++ [32]) := by simp [wdS]
theorem wdS_app (W V : List MW) : wdS (W ++ V) = wdS W ++ wdS V := by simp [wdS]
theorem wdS_cut (W : List MW) : (wdS W).dropLast = joinL 32 (W.map MW.text) := by
  rw [← joinL_dropLast]
  unfold wdS
  rw [List.map_map]
  rfl
theorem wdS_len {W : List MW} (h : ∀ z ∈ W, z.text.length ≤ 90) : (wdS W).length ≤ W.length * 91 := by
  have := flat_len (ws := W.map fun z => z.text ++ [32]) (b := 91) (by
    intro x hx
    obtain ⟨z, hz, rfl⟩ := List.mem_map.1 hx
    have := h z hz
    simp; omega)
  simpa [wdS] using this
theorem l5MarkC_c (b : Bool) (l : Str) (w : World) : Calls Tryz.prog 127 #[.bool b, .string (txt l)] w fun e w' => e = .returned (.string (txt (if b then l else []))) ∧ RowKit.Below w.heap.size w w' := by
  refine (plain_of_vcs ⟨[], []⟩ hmx Tryz.func127 rfl (by kernel_rfl) (args := [.bool b, .string (txt l)]) (by simp [Tryz.ntmps127]) w (· = .string (txt (if b then l else []))) 400 ?_).mono fun e w' ⟨v, h1, h2, h3⟩ => ⟨h2 ▸ h1, h3⟩
  cases b <;> simp (maxSteps := 4000000) -dsimp [-Y1, -Array.all_eq_true, -Y3, -Y4, and_assoc, Y5, Tryz.f127, txt_eta]
def l5MarkC : Con Tryz.prog := Con.pure 127 Tryz.call127 (fun (i : ((Bool) × (Str))) => match i with | (b, l) => [.bool b, .string (txt l)]) (fun (i : ((Bool) × (Str))) => match i with | (b, l) => True) (fun (i : ((Bool) × (Str))) => match i with | (b, l) => .string (txt (if b then l else []))) fun i w _ => l5MarkC_c i.1 i.2 w
theorem l5DevC_c (k : Int) (n : Nat) (l : Str) (hpre : 1 ≤ k ∧ k ≤ 10 ∧ n ≤ 100 ∧ l.length ≤ 1000) (w : World) : Calls Tryz.prog 125 #[.int .i64 k, .int .i64 n, .string (txt l)] w fun e w' => e = .returned (.string (txt (letterU k :: (decL n ++ (l ++ [32]))))) ∧ RowKit.Below w.heap.size w w' := by
  refine (plain_of_vcs ⟨[sDevLetterC, sDecC], []⟩ hmx Tryz.func125 rfl (by kernel_rfl) (args := [.int .i64 k, .int .i64 n, .string (txt l)]) (by simp [Tryz.ntmps125]) w (· = .string (txt (letterU k :: (decL n ++ (l ++ [32]))))) 400 ?_).mono fun e w' ⟨v, h1, h2, h3⟩ => ⟨h2 ▸ h1, h3⟩
  obtain ⟨h1, h2, h3, h4⟩ := hpre
  have ei : decZ (n : Int) = decL n := by unfold decZ; rw [if_neg (by omega)]; rfl
  have hr1 : (-9223372036854775807 : Int) ≤ n := by omega
  have hr2 : (n : Int) ≤ 9223372036854775807 := by omega
  have hl := decL_len n 2 (by omega)
  simp (maxSteps := 4000000) -dsimp [-Y1, -Array.all_eq_true, -Y3, -Y4, and_assoc, Y5, Tryz.f125, sDevLetterC, sDecC, h1, h2, hr1, hr2, ei, txt_eta]
  omega
def l5DevC : Con Tryz.prog := Con.pure 125 Tryz.call125 (fun (i : ((Int) × (Nat) × (Str))) => match i with | (k, n, l) => [.int .i64 k, .int .i64 n, .string (txt l)]) (fun (i : ((Int) × (Nat) × (Str))) => match i with | (k, n, l) => 1 ≤ k ∧ k ≤ 10 ∧ n ≤ 100 ∧ l.length ≤ 1000) (fun (i : ((Int) × (Nat) × (Str))) => match i with | (k, n, l) => .string (txt (letterU k :: (decL n ++ (l ++ [32]))))) fun i w hp => l5DevC_c i.1 i.2.1 i.2.2 hp w
theorem l5BitsC_c (m : M) (k : Int) (hpre : MOk m ∧ 1 ≤ k ∧ k ≤ 5) (w : World) : Calls Tryz.prog 124 #[.agg (cells m), .int .i64 k] w fun e w' => e = .returned (.string (txt (wdS (preW (fun (n : Nat) => memBit m k n) (.bit k) (devSize k).toNat)))) ∧ RowKit.Below w.heap.size w w' := by
  refine (plain_of_vcs ⟨[sDevSizeC, sMemBitC, l5DevC], []⟩ hmx Tryz.func124 rfl (by kernel_rfl) (args := [.agg (cells m), .int .i64 k]) (by simp [Tryz.ntmps124]) w (· = .string (txt (wdS (preW (fun (n : Nat) => memBit m k n) (.bit k) (devSize k).toNat)))) 600 ?_).mono fun e w' ⟨v, h1, h2, h3⟩ => ⟨h2 ▸ h1, h3⟩
  obtain ⟨hm, hk1, hk5⟩ := hpre
  have hk10 : k ≤ 10 := by omega
  obtain ⟨N, hN⟩ : ∃ N : Nat, devSize k = N := ⟨(devSize k).toNat, by have := devSize_bd k; omega⟩
  have hN64 : N ≤ 64 := by have := devSize_le k; omega
  obtain ⟨p, hp⟩ : ∃ p : Nat → Bool, p = fun (n : Nat) => memBit m k n := ⟨_, rfl⟩
  rw [← hp, hN, Int.toNat_natCast]
  simp (maxSteps := 4000000) -dsimp [-Y1, -Array.all_eq_true, -Y3, -Y4, and_assoc, Y5, Tryz.f124, sDevSizeC, sMemBitC, l5DevC, txt_eta]
  intro b0
  refine loop_inv (σ := ⟨[sDevSizeC, sMemBitC, l5DevC], []⟩) hmx (by kernel_rfl) (fun q cx tm mem => cx = ⟨w, [], w, []⟩ ∧ ∃ n : Nat, q = N - n ∧ n ≤ N ∧ (wdS (preW p (.bit k) n)).length ≤ 100 * n ∧ mem = [⟨b0, cellC m, 36⟩] ∧ Sx.look tm 6 = .v (.int .i64 n) ∧ Sx.look tm 5 = .v (.string (txt (wdS (preW p (.bit k) n)))) ∧ Sx.look tm 2 = .p 0 b0 0 ∧ Sx.look tm 1 = .v (.int .i64 k))
    N ⟨rfl, 0, by omega, by omega, by simp [preW, wdS], rfl, by simp [Sx.look], by simp [Sx.look, preW, wdS, txt_eta], by simp [Sx.look], by simp [Sx.look]⟩ ?_
  rintro q cx tm mem ⟨rfl, n, rfl, hn, hb, rfl, j6, j5, j2, j1⟩
  refine ⟨600, ?_⟩
  by_cases hlt : n < N
  · have hbp : memBit m k n = p n := by rw [hp]
    have n100 : n ≤ 100 := by omega
    have n1 := decL_len n 1 (by omega)
    have e := preW_succ p (.bit k) n
    cases hq : p n
    · rw [hq, if_neg (by decide), List.append_nil] at e
      simp (maxSteps := 4000000) -dsimp [-Y1, -Array.all_eq_true, -Y3, -Y4, and_assoc, Y5, Tryz.f124, sDevSizeC, sMemBitC, l5DevC, j6, j5, j2, j1, hlt, hN, hbp, hq, hm, hk1, hk10, n100, i_succ (i := n) (by omega)]
      exact ⟨⟨1, N - (n + 1), by omega, n + 1, rfl, by omega, by rw [e]; omega, rfl, by omega, by rw [e]⟩, fun h => by omega⟩
    · rw [hq, if_pos rfl] at e
      simp (maxSteps := 4000000) -dsimp [-Y1, -Array.all_eq_true, -Y3, -Y4, and_assoc, Y5, Tryz.f124, sDevSizeC, sMemBitC, l5DevC, j6, j5, j2, j1, hlt, hN, hbp, hq, hm, hk1, hk10, n100, txt_eta, i_succ (i := n) (by omega)]
      exact ⟨⟨n, rfl, n100, by omega, 1, N - (n + 1), by omega, n + 1, rfl, by omega, by rw [e, wdS_snoc]; simp [MW.text]; omega, rfl, by omega, by rw [e, wdS_snoc]; simp [MW.text]⟩, fun h => by omega⟩
  · obtain rfl : n = N := by omega
    simp (maxSteps := 4000000) -dsimp [-Y1, -Array.all_eq_true, -Y3, -Y4, and_assoc, Y5, Tryz.f124, sDevSizeC, sMemBitC, l5DevC, j6, j5, j2, j1, hN]
def l5BitsC : Con Tryz.prog := Con.pure 124 Tryz.call124 (fun (i : ((M) × (Int))) => match i with | (m, k) => [.agg (cells m), .int .i64 k]) (fun (i : ((M) × (Int))) => match i with | (m, k) => MOk m ∧ 1 ≤ k ∧ k ≤ 5) (fun (i : ((M) × (Int))) => match i with | (m, k) => .string (txt (wdS (preW (fun (n : Nat) => memBit m k n) (.bit k) (devSize k).toNat)))) fun i w hp => l5BitsC_c i.1 i.2 hp w
theorem realL_zero {x : Nat} (hx : x < 18446744073709551616) (h : sameFB x 0 = false) : ¬ realL x = [48] := by
  intro e
  have e0 : realL 0 = [48] := by rw [realL_fields 0 (by decide)]; decide
  rw [← e0] at e
  have h1 := realL_eq hx (b := 0) (by decide)
  rw [e, h] at h1
  simp at h1
end Go.Proofs.YtclbanhoiaieaaaGreatDoor
