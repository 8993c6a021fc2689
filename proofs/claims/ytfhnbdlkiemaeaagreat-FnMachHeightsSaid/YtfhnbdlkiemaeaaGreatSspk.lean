/-
  Contracts: the reference traces a list.
-/
import Derived.Test.YtfhnbdlkiemaeaaGreatIpk
import Derived.Test.YtfhnbdlkiemaeaaGreatInpk
import Derived.Test.YtfhnbdlkiemaeaaGreatSvpk
set_option linter.unusedVariables false
set_option linter.unusedSimpArgs false
set_option maxRecDepth 100000
set_option maxHeartbeats 4000000
namespace Go.Proofs.YtfhnbdlkiemaeaaGreat
open Go Go.Sx
open List renaming all_eq_true → Y1, zipIdx → Y5
open Bool renaming exists_bool → Y3, forall_bool → Y4
attribute [local simp] Go.Sx.vcsE1 Go.Sx.vcsE2 Go.Sx.vcsE3 Go.Sx.vcsE4 Go.Sx.vcsE5 Go.Sx.vcsE6 Go.Sx.vcsE7 Go.Sx.vcsE8 Go.Sx.vcsE9 Go.Sx.vcsE10 Go.Sx.vcsE11 Go.Sx.vcsE12 Go.Sx.vcsE13 Go.Sx.vcsE14 Go.Sx.vcsE15 Go.Sx.vcsE16 Go.Sx.vcsE17 Go.Sx.vcsE18 Go.Sx.vcsE19 Go.Sx.get Go.Sx.look Go.Sx.put Go.Sx.pureFn Go.Sx.findOrd Go.Sx.unF Go.Sx.dstOk Go.Sx.isFloatT Go.Sx.endVC Go.Sx.resFn Go.Sx.packC Go.Sx.newFn Go.Sx.storeFn Go.Sx.buildFn Go.Sx.known Go.Sx.aggT Go.Sx.cellsC Go.Sx.findCon Go.Sx.allV Go.Sx.partsV Go.Sx.partsC Go.Sx.fillL Go.Sx.exitTo Go.Sx.fAr Go.Sx.eqFn Go.Sx.eqFieldsFn Go.Sx.eqElemsFn Go.Sx.partFn Go.Sx.sliceFn Go.Sx.boundFn Go.Sx.AppV Go.Sx.CopyV Go.Sx.MakeSliceV Go.Sx.NewsV Go.Sx.GrowV Go.Sx.TextV Go.Sx.bytesL Go.Sx.notInt Go.Sx.typeAt Go.Sx.argAt Go.Sx.den Go.undef Go.Value.cells Go.Value.oneCell' Go.Sx.Con.pure Go.Sx.Con.some Go.Sx.Con.read Go.Sx.Con.make Go.Sx.Con.ext Go.Sx.Con.rel Go.Sx.Con.extS Go.Sx.Con.draw Go.Sx.Con.step Go.Sx.C.one Go.Sx.Draws.steps

theorem heightsC_c (c : Int) (w : World) : Calls Tryz.prog 109 #[.int .i64 c] w fun e w' => e = .returned (.agg #[.int .i64 (dB c), .int .i64 (dF c)]) ∧ RowKit.Below w.heap.size w w' := by
  refine (plain_of_vcs ⟨[], []⟩ hmx Tryz.func109 rfl (by kernel_rfl) (args := [.int .i64 c]) (by simp [Tryz.ntmps109]) w (· = .agg #[.int .i64 (dB c), .int .i64 (dF c)]) 400 ?_).mono fun e w' ⟨v, h1, h2, h3⟩ => ⟨h2 ▸ h1, h3⟩
  by_cases h1 : c = 1
  · subst h1; simp (maxSteps := 4000000) -dsimp [-Y1, -Array.all_eq_true, -Y3, -Y4, and_assoc, Y5, Tryz.f109, dB, dF]
  · by_cases h4 : c = 4
    · subst h4; simp (maxSteps := 4000000) -dsimp [-Y1, -Array.all_eq_true, -Y3, -Y4, and_assoc, Y5, Tryz.f109, dB, dF]
    · by_cases h5 : c = 5
      · subst h5; simp (maxSteps := 4000000) -dsimp [-Y1, -Array.all_eq_true, -Y3, -Y4, and_assoc, Y5, Tryz.f109, dB, dF]
      · by_cases h11 : c = 11
        · subst h11; simp (maxSteps := 4000000) -dsimp [-Y1, -Array.all_eq_true, -Y3, -Y4, and_assoc, Y5, Tryz.f109, dB, dF]
        · by_cases h7 : c = 7
          · subst h7; simp (maxSteps := 4000000) -dsimp [-Y1, -Array.all_eq_true, -Y3, -Y4, and_assoc, Y5, Tryz.f109, dB, dF]
          · by_cases h9 : c = 9
            · subst h9; simp (maxSteps := 4000000) -dsimp [-Y1, -Array.all_eq_true, -Y3, -Y4, and_assoc, Y5, Tryz.f109, dB, dF]
            · simp (maxSteps := 4000000) -dsimp [-Y1, -Array.all_eq_true, -Y3, -Y4, and_assoc, Y5, Tryz.f109, dB, dF, h1, h4, h5, h11, h7, h9]
def heightsC : Con Tryz.prog := Con.pure 109 Tryz.call109 (fun (c : ((Int))) => [.int .i64 c]) (fun (c : ((Int))) => True) (fun (c : ((Int))) => .agg #[.int .i64 (dB c), .int .i64 (dF c)]) fun c w _ => heightsC_c c w
theorem thenC_c (a b c : Int) (hpre : -1048576 ≤ a ∧ a ≤ 1048576 ∧ -1048576 ≤ b ∧ b ≤ 1048576) (w : World) : Calls Tryz.prog 51 #[.agg #[.int .i64 a, .int .i64 b], .int .i64 c] w fun e w' => e = .returned (.agg #[.int .i64 (a + dB c), .int .i64 (b + dF c)]) ∧ RowKit.Below w.heap.size w w' := by
  refine (plain_of_vcs ⟨[heightsC], []⟩ hmx Tryz.func51 rfl (by kernel_rfl) (args := [.agg #[.int .i64 a, .int .i64 b], .int .i64 c]) (by simp [Tryz.ntmps51]) w (· = .agg #[.int .i64 (a + dB c), .int .i64 (b + dF c)]) 400 ?_).mono fun e w' ⟨v, h1, h2, h3⟩ => ⟨h2 ▸ h1, h3⟩
  have h1 := dB_abs c
  have h2 := dF_abs c
  have e1 : IntKind.i64.wrap (a + dB c) = a + dB c := wrap_i64 (by omega) (by omega)
  have e2 : IntKind.i64.wrap (b + dF c) = b + dF c := wrap_i64 (by omega) (by omega)
  simp (maxSteps := 4000000) -dsimp [-Y1, -Array.all_eq_true, -Y3, -Y4, and_assoc, Y5, Tryz.f51, heightsC, e1, e2]
def thenC : Con Tryz.prog := Con.pure 51 Tryz.call51 (fun (i : ((Int) × (Int) × (Int))) => match i with | (a, b, c) => [.agg #[.int .i64 a, .int .i64 b], .int .i64 c]) (fun (i : ((Int) × (Int) × (Int))) => match i with | (a, b, c) => -1048576 ≤ a ∧ a ≤ 1048576 ∧ -1048576 ≤ b ∧ b ≤ 1048576) (fun (i : ((Int) × (Int) × (Int))) => match i with | (a, b, c) => .agg #[.int .i64 (a + dB c), .int .i64 (b + dF c)]) fun i w hp => thenC_c i.1 i.2.1 i.2.2 hp w
theorem sureTraceC_c (o : Option Addr) (cap : Nat) (xs : List Ins) (w : World) (hpre : RdN (factF ⟨w, [], w, []⟩) o xs ∧ xs.length ≤ 1048576) : Calls Tryz.prog 17 #[.slice o xs.length cap] w fun e w' => ∃ v, e = .returned v ∧ RowKit.Below w.heap.size w w' ∧ IsTr (fun a => if w.heap.size ≤ a.block then w'.cell? a else none) v xs := by
  refine make_of_vcs ⟨[thenC], []⟩ hmx Tryz.func17 rfl (by kernel_rfl) (args := [.slice o xs.length cap]) (by simp [Tryz.ntmps17]) w (fun v F => IsTr F v xs) 400 ?_
  obtain ⟨h, hl⟩ := hpre
  by_cases hm : xs.length ≤ 1000
  · have hm1 : ¬ (1000 : Int) < xs.length := by omega
    simp (maxSteps := 4000000) -dsimp [-Y1, -Array.all_eq_true, -Y3, -Y4, and_assoc, Y5, Tryz.f17, thenC, hm1]
    intro b b1
    refine loop_inv (σ := ⟨[thenC], []⟩) hmx (by kernel_rfl) (fun q cx tm mem => Le ⟨w, [], w, []⟩ cx ∧ ∃ (i b' cp : Nat) (pad : List C), i ≤ xs.length ∧ q = xs.length - i ∧ i ≤ cp ∧ cp ≤ maxLen ∧ pad.length = (cp - i) * 2 ∧ mem = [⟨b', trC xs i ++ pad, 68⟩, ⟨b1, [.v (.int .i64 (hB xs i)), .v (.int .i64 (hF xs i))], 68⟩] ∧ Sx.look tm 15 = .v (.int .i64 i) ∧ Sx.look tm 14 = .v (.int .i64 xs.length) ∧ Sx.look tm 13 = .v (.slice o xs.length cap) ∧ Sx.look tm 4 = .p 1 b1 0 ∧ Sx.look tm 3 = .s 0 b' 0 i cp)
      xs.length ⟨Le.refl _, 0, b, 0, [], by omega, rfl, by omega, by decide, rfl, rfl, by simp [Sx.look], by simp [Sx.look], by simp [Sx.look], by simp [Sx.look], by simp [Sx.look]⟩ ?_
    rintro q cx tm mem ⟨hle, i, b', cp, pad, hi, rfl, hicp, hcp, hpad, rfl, h15, h14, h13, h4, h3⟩
    refine ⟨300, ?_⟩
    have hc := h.mono hle.fact
    by_cases hlt : i < xs.length
    · obtain ⟨x, hx⟩ : ∃ x, xs[i]? = some x := ⟨xs[i], by simp [hlt]⟩
      obtain ⟨o', cap', hat⟩ := hc.at hx
      have a1 := hB_abs xs i hi
      have a2 := hF_abs xs i hi
      have hp : -1048576 ≤ hB xs i ∧ hB xs i ≤ 1048576 ∧ -1048576 ≤ hF xs i ∧ hF xs i ≤ 1048576 := by omega
      simp (maxSteps := 4000000) -dsimp [-Y1, -Array.all_eq_true, -Y3, -Y4, and_assoc, Y5, Tryz.f17, thenC, h15, h14, h13, h4, h3, hlt, hc.there hlt, hat.all, hp]
      intro b2 cx' p hle' hlit
      rw [RdO.sl (size := 2) (rows := [[.int .i64 (hB xs i + dB x.code), .int .i64 (hF xs i + dF x.code)]]) ((hlit.mono ((sub_new cx').trans (sub_now _ _))).rows (by decide) (by simp) (by simp)) (by decide) (by simp)]
      have e0 := trC_take xs i pad
      have e1 := trC_len xs i
      unfold GrowV
      simp (maxSteps := 4000000) -dsimp [-Y1, -Array.all_eq_true, -Y3, -Y4, and_assoc, Y5, Tryz.f17, thenC, h15, h14, h13, h4, h3, e0, e1, i_succ (i := i) (by omega)]
      have em : i + 1 ≤ maxLen := by unfold maxLen; omega
      refine ⟨by omega, hicp, hcp, em, by omega, fun b4 cp4 pad4 g1 g2 g3 => ⟨2, _, ?_, hle.trans hle', i + 1, by omega, rfl, b4, cp4, g1, g2, pad4, g3, ?_, by omega, rfl, rfl, rfl⟩⟩
      · omega
      · rw [trC_succ hx, hB_succ hx, hF_succ hx]; simp
    · obtain rfl : i = xs.length := by omega
      simp (maxSteps := 4000000) -dsimp [-Y1, -Array.all_eq_true, -Y3, -Y4, and_assoc, Y5, Tryz.f17, thenC, h15, h14, h13, h4, h3]
      have hn : trN xs = xs.length := by unfold trN; rw [if_pos hm]
      refine ⟨hle.w0, hle.g0, fun w' hw => ⟨⟨_, cp, by rw [hn]; rfl, by rw [hn]; exact RdO.fin hle.w0 hle.g0 hw (k := 0) rfl trRows_two (trC_den xs xs.length pad), by omega, hcp⟩⟩⟩
  · have hm1 : (1000 : Int) < xs.length := by omega
    simp (maxSteps := 4000000) -dsimp [-Y1, -Array.all_eq_true, -Y3, -Y4, and_assoc, Y5, Tryz.f17, thenC, hm1]
    intro b b1
    have hn : trN xs = 0 := by unfold trN; rw [if_neg hm]
    refine ⟨rfl, rfl, fun w' hm => ⟨⟨_, 0, by rw [hn]; rfl, by rw [hn]; exact RdO.nil _ _ _, by omega, by decide⟩⟩⟩
def sureTraceC_S : Makes Tryz.prog 17 where
  ι := ((Option Addr) × (Nat) × (List Ins))
  A := fun (i : ((Option Addr) × (Nat) × (List Ins))) => match i with | (o, cap, xs) => [.slice o xs.length cap]
  pre := fun (i : ((Option Addr) × (Nat) × (List Ins))) (F : Facts) => match i with | (o, cap, xs) => RdN F o xs ∧ xs.length ≤ 1048576
  post := fun (i : ((Option Addr) × (Nat) × (List Ins))) (v : Value) (F : Facts) => match i with | (o, cap, xs) => IsTr F v xs
  mono := by
    intro i F G hs h
    first | exact h | exact h.mono hs | exact ⟨h.1.mono hs, h.2⟩ | exact ⟨h.1.mono hs, h.2.1.mono hs, h.2.2⟩ | exact ⟨h.1.mono hs, h.2.1.mono hs⟩
  monoP := fun i v F G hs h => h.mono hs
  enter := Tryz.call17
  h := fun i w hp => sureTraceC_c i.1 i.2.1 i.2.2 w (by rw [factF_init]; exact hp)
def sureTraceC : Con Tryz.prog := Con.make sureTraceC_S
end Go.Proofs.YtfhnbdlkiemaeaaGreat
namespace Go.Proofs.YtfhnbdlkiemaeaaGreat
open Go Go.Sx

theorem code_cases (c : Int) : c = 1 ∨ c = 4 ∨ c = 5 ∨ c = 11 ∨ c = 7 ∨ c = 9 ∨ (c ≠ 1 ∧ c ≠ 4 ∧ c ≠ 5 ∧ c ≠ 11 ∧ c ≠ 7 ∧ c ≠ 9) := by omega
end Go.Proofs.YtfhnbdlkiemaeaaGreat
