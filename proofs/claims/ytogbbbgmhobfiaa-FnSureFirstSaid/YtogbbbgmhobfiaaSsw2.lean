/-
  Contracts: the reference traces a list.
-/
import Derived.Test.YtogbbbgmhobfiaaIw2
import Derived.Test.YtogbbbgmhobfiaaInw2
import Derived.Test.YtogbbbgmhobfiaaSvw2
set_option linter.unusedVariables false
set_option linter.unusedSimpArgs false
set_option maxRecDepth 100000
set_option maxHeartbeats 4000000
namespace Go.Proofs.Ytogbbbgmhobfiaa
open Go Go.Sx
open List renaming all_eq_true → Y1, zipIdx → Y5
open Bool renaming exists_bool → Y3, forall_bool → Y4
attribute [local simp] Sx.vcsE1 Sx.vcsE2 Sx.vcsE3 Sx.vcsE4 Sx.vcsE5 Sx.vcsE6 Sx.vcsE7 Sx.vcsE8 Sx.vcsE9 Sx.vcsE10 Sx.vcsE11 Sx.vcsE12 Sx.vcsE13 Sx.vcsE14 Sx.vcsE15 Sx.vcsE16 Sx.vcsE17 Sx.vcsE18 Sx.vcsE19 Sx.get Sx.look Sx.put Sx.pureFn Sx.findOrd Sx.unF Sx.dstOk Sx.isFloatT Sx.endVC Sx.resFn Sx.packC Sx.newFn Sx.storeFn Sx.buildFn Sx.known Sx.aggT Sx.cellsC Sx.findCon Sx.allV Sx.partsV Sx.partsC Sx.fillL Sx.exitTo Sx.fAr Sx.eqFn Sx.eqFieldsFn Sx.eqElemsFn Sx.partFn Sx.sliceFn Sx.boundFn Sx.AppV Sx.CopyV Sx.MakeSliceV Sx.NewsV Sx.GrowV Sx.TextV Sx.bytesL Sx.notInt Sx.typeAt Sx.argAt Sx.den Go.undef Go.Value.cells Go.Value.oneCell' Sx.Con.pure Sx.Con.some Sx.Con.read Sx.Con.make Sx.Con.ext Sx.Con.rel Sx.Con.extS Sx.Con.draw Sx.Con.step Sx.C.one Sx.Draws.steps

theorem heightsC_c (c : Int) (w : World) : Calls Try.prog 24 #[.int .i64 c] w fun e w' => e = .returned (.agg #[.int .i64 (dB c), .int .i64 (dF c)]) ∧ RowKit.Below w.heap.size w w' := by
  refine (plain_of_vcs ⟨[], []⟩ hmx Try.func24 rfl (by kernel_rfl) (args := [.int .i64 c]) (by simp [Try.ntmps24]) w (· = .agg #[.int .i64 (dB c), .int .i64 (dF c)]) 400 ?_).mono fun e w' ⟨v, h1, h2, h3⟩ => ⟨h2 ▸ h1, h3⟩
  by_cases h1 : c = 1
  · subst h1; simp (maxSteps := 4000000) -dsimp [-Y1, -Array.all_eq_true, -Y3, -Y4, and_assoc, Y5, Try.f24, dB, dF]
  · by_cases h4 : c = 4
    · subst h4; simp (maxSteps := 4000000) -dsimp [-Y1, -Array.all_eq_true, -Y3, -Y4, and_assoc, Y5, Try.f24, dB, dF]
    · by_cases h5 : c = 5
      · subst h5; simp (maxSteps := 4000000) -dsimp [-Y1, -Array.all_eq_true, -Y3, -Y4, and_assoc, Y5, Try.f24, dB, dF]
      · by_cases h11 : c = 11
        · subst h11; simp (maxSteps := 4000000) -dsimp [-Y1, -Array.all_eq_true, -Y3, -Y4, and_assoc, Y5, Try.f24, dB, dF]
        · by_cases h7 : c = 7
          · subst h7; simp (maxSteps := 4000000) -dsimp [-Y1, -Array.all_eq_true, -Y3, -Y4, and_assoc, Y5, Try.f24, dB, dF]
          · by_cases h9 : c = 9
            · subst h9; simp (maxSteps := 4000000) -dsimp [-Y1, -Array.all_eq_true, -Y3, -Y4, and_assoc, Y5, Try.f24, dB, dF]
            · simp (maxSteps := 4000000) -dsimp [-Y1, -Array.all_eq_true, -Y3, -Y4, and_assoc, Y5, Try.f24, dB, dF, h1, h4, h5, h11, h7, h9]
def heightsC : Con Try.prog := Con.pure 24 Try.call24 (fun (c : ((Int))) => [.int .i64 c]) (fun (c : ((Int))) => True) (fun (c : ((Int))) => .agg #[.int .i64 (dB c), .int .i64 (dF c)]) fun c w _ => heightsC_c c w
theorem thenC_c (a b c : Int) (hpre : -1048576 ≤ a ∧ a ≤ 1048576 ∧ -1048576 ≤ b ∧ b ≤ 1048576) (w : World) : Calls Try.prog 11 #[.agg #[.int .i64 a, .int .i64 b], .int .i64 c] w fun e w' => e = .returned (.agg #[.int .i64 (a + dB c), .int .i64 (b + dF c)]) ∧ RowKit.Below w.heap.size w w' := by
  refine (plain_of_vcs ⟨[heightsC], []⟩ hmx Try.func11 rfl (by kernel_rfl) (args := [.agg #[.int .i64 a, .int .i64 b], .int .i64 c]) (by simp [Try.ntmps11]) w (· = .agg #[.int .i64 (a + dB c), .int .i64 (b + dF c)]) 400 ?_).mono fun e w' ⟨v, h1, h2, h3⟩ => ⟨h2 ▸ h1, h3⟩
  have h1 := dB_abs c
  have h2 := dF_abs c
  have e1 : IntKind.i64.wrap (a + dB c) = a + dB c := wrap_i64 (by omega) (by omega)
  have e2 : IntKind.i64.wrap (b + dF c) = b + dF c := wrap_i64 (by omega) (by omega)
  simp (maxSteps := 4000000) -dsimp [-Y1, -Array.all_eq_true, -Y3, -Y4, and_assoc, Y5, Try.f11, heightsC, e1, e2]
def thenC : Con Try.prog := Con.pure 11 Try.call11 (fun (i : ((Int) × (Int) × (Int))) => match i with | (a, b, c) => [.agg #[.int .i64 a, .int .i64 b], .int .i64 c]) (fun (i : ((Int) × (Int) × (Int))) => match i with | (a, b, c) => -1048576 ≤ a ∧ a ≤ 1048576 ∧ -1048576 ≤ b ∧ b ≤ 1048576) (fun (i : ((Int) × (Int) × (Int))) => match i with | (a, b, c) => .agg #[.int .i64 (a + dB c), .int .i64 (b + dF c)]) fun i w hp => thenC_c i.1 i.2.1 i.2.2 hp w
theorem sureTraceC_c (o : Option Addr) (cap : Nat) (xs : List Ins) (w : World) (hpre : RdN (factF ⟨w, [], w, []⟩) o xs ∧ xs.length ≤ 1048576) : Calls Try.prog 14 #[.slice o xs.length cap] w fun e w' => ∃ v, e = .returned v ∧ RowKit.Below w.heap.size w w' ∧ IsTr (fun a => if w.heap.size ≤ a.block then w'.cell? a else none) v xs := by
  refine make_of_vcs ⟨[thenC], []⟩ hmx Try.func14 rfl (by kernel_rfl) (args := [.slice o xs.length cap]) (by simp [Try.ntmps14]) w (fun v F => IsTr F v xs) 400 ?_
  obtain ⟨h, hl⟩ := hpre
  by_cases hm : xs.length ≤ 1000
  · have hm1 : ¬ (1000 : Int) < xs.length := by omega
    simp (maxSteps := 4000000) -dsimp [-Y1, -Array.all_eq_true, -Y3, -Y4, and_assoc, Y5, Try.f14, thenC, hm1]
    intro b b1
    refine loop_inv (σ := ⟨[thenC], []⟩) hmx (by kernel_rfl) (fun q cx tm mem => Le ⟨w, [], w, []⟩ cx ∧ ∃ (i b' cp : Nat) (pad : List C), i ≤ xs.length ∧ q = xs.length - i ∧ i ≤ cp ∧ cp ≤ maxLen ∧ pad.length = (cp - i) * 2 ∧ mem = [⟨b', trC xs i ++ pad, 32⟩, ⟨b1, [.v (.int .i64 (hB xs i)), .v (.int .i64 (hF xs i))], 32⟩] ∧ Sx.look tm 15 = .v (.int .i64 i) ∧ Sx.look tm 14 = .v (.int .i64 xs.length) ∧ Sx.look tm 13 = .v (.slice o xs.length cap) ∧ Sx.look tm 4 = .p 1 b1 0 ∧ Sx.look tm 3 = .s 0 b' 0 i cp)
      xs.length ⟨Le.refl _, 0, b, 0, [], by omega, rfl, by omega, by decide, rfl, rfl, by simp [Sx.look], by simp [Sx.look], by simp [Sx.look], by simp [Sx.look], by simp [Sx.look]⟩ ?_
    rintro q cx tm mem ⟨hle, i, b', cp, pad, hi, rfl, hicp, hcp, hpad, rfl, h15, h14, h13, h4, h3⟩
    refine ⟨300, ?_⟩
    have hc := h.mono hle.fact
    by_cases hlt : i < xs.length
    · obtain ⟨x, hx⟩ : ∃ x, xs[i]? = some x := ⟨xs[i], by simp [hlt]⟩
      obtain ⟨o', cap', hat⟩ := hc.at hx
      have a1 := hB_abs xs i hi
      have a2 := hF_abs xs i hi
      have hp : -1048576 ≤ hB xs i ∧ hB xs i ≤ 1048576 ∧ -1048576 ≤ hF xs i ∧ hF xs i ≤ 1048576 := by omega
      simp (maxSteps := 4000000) -dsimp [-Y1, -Array.all_eq_true, -Y3, -Y4, and_assoc, Y5, Try.f14, thenC, h15, h14, h13, h4, h3, hlt, hc.there hlt, hat.all, hp]
      intro b2 cx' p hle' hlit
      rw [RdO.sl (size := 2) (rows := [[.int .i64 (hB xs i + dB x.code), .int .i64 (hF xs i + dF x.code)]]) ((hlit.mono ((sub_new cx').trans (sub_now _ _))).rows (by decide) (by simp) (by simp)) (by decide) (by simp)]
      have e0 := trC_take xs i pad
      have e1 := trC_len xs i
      unfold GrowV
      simp (maxSteps := 4000000) -dsimp [-Y1, -Array.all_eq_true, -Y3, -Y4, and_assoc, Y5, Try.f14, thenC, h15, h14, h13, h4, h3, e0, e1, i_succ (i := i) (by omega)]
      have em : i + 1 ≤ maxLen := by unfold maxLen; omega
      refine ⟨by omega, hicp, hcp, em, by omega, fun b4 cp4 pad4 g1 g2 g3 => ⟨2, _, ?_, hle.trans hle', i + 1, by omega, rfl, b4, cp4, g1, g2, pad4, g3, ?_, by omega, rfl, rfl, rfl⟩⟩
      · omega
      · rw [trC_succ hx, hB_succ hx, hF_succ hx]; simp
    · obtain rfl : i = xs.length := by omega
      simp (maxSteps := 4000000) -dsimp [-Y1, -Array.all_eq_true, -Y3, -Y4, and_assoc, Y5, Try.f14, thenC, h15, h14, h13, h4, h3]
      have hn : trN xs = xs.length := by unfold trN; rw [if_pos hm]
      refine ⟨hle.w0, hle.g0, fun w' hw => ⟨⟨_, cp, by rw [hn]; rfl, by rw [hn]; exact RdO.fin hle.w0 hle.g0 hw (k := 0) rfl trRows_two (trC_den xs xs.length pad), by omega, hcp⟩⟩⟩
  · have hm1 : (1000 : Int) < xs.length := by omega
    simp (maxSteps := 4000000) -dsimp [-Y1, -Array.all_eq_true, -Y3, -Y4, and_assoc, Y5, Try.f14, thenC, hm1]
    intro b b1
    have hn : trN xs = 0 := by unfold trN; rw [if_neg hm]
    refine ⟨rfl, rfl, fun w' hm => ⟨⟨_, 0, by rw [hn]; rfl, by rw [hn]; exact RdO.nil _ _ _, by omega, by decide⟩⟩⟩
def sureTraceC_S : Makes Try.prog 14 where
  ι := ((Option Addr) × (Nat) × (List Ins))
  A := fun (i : ((Option Addr) × (Nat) × (List Ins))) => match i with | (o, cap, xs) => [.slice o xs.length cap]
  pre := fun (i : ((Option Addr) × (Nat) × (List Ins))) (F : Facts) => match i with | (o, cap, xs) => RdN F o xs ∧ xs.length ≤ 1048576
  post := fun (i : ((Option Addr) × (Nat) × (List Ins))) (v : Value) (F : Facts) => match i with | (o, cap, xs) => IsTr F v xs
  mono := by
    intro i F G hs h
    first | exact h | exact h.mono hs | exact ⟨h.1.mono hs, h.2⟩ | exact ⟨h.1.mono hs, h.2.1.mono hs, h.2.2⟩ | exact ⟨h.1.mono hs, h.2.1.mono hs⟩ | exact ⟨h.1.mono hs, h.2.1.mono hs, h.2.2.1.mono hs, h.2.2.2⟩
  monoP := fun i v F G hs h => h.mono hs
  enter := Try.call14
  h := fun i w hp => sureTraceC_c i.1 i.2.1 i.2.2 w (by rw [factF_init]; exact hp)
def sureTraceC : Con Try.prog := Con.make sureTraceC_S
end Go.Proofs.Ytogbbbgmhobfiaa
namespace Go.Proofs.Ytogbbbgmhobfiaa
open Go Go.Sx

theorem code_cases (c : Int) : c = 1 ∨ c = 4 ∨ c = 5 ∨ c = 11 ∨ c = 7 ∨ c = 9 ∨ (c ≠ 1 ∧ c ≠ 4 ∧ c ≠ 5 ∧ c ≠ 11 ∧ c ≠ 7 ∧ c ≠ 9) := by omega
end Go.Proofs.Ytogbbbgmhobfiaa
