/-
  Contracts: the reference traces a list.
-/
import Derived.Test.YtfhnbdlkiemaeaaIl
import Derived.Test.YtfhnbdlkiemaeaaSv
set_option linter.unusedVariables false
set_option linter.unusedSimpArgs false
set_option maxRecDepth 100000
set_option maxHeartbeats 4000000
namespace Go.Proofs.Ytfhnbdlkiemaeaa
open Go Go.Sx
open Go.Sx renaming vcsE1 → Z1, vcsE2 → Z2, vcsE3 → Z3, vcsE4 → Z4, vcsE5 → Z5, vcsE6 → Z6, vcsE7 → Z7, vcsE8 → Z8, vcsE9 → Z9, vcsE10 → Z10, vcsE11 → Z11, vcsE12 → Z12, vcsE13 → Z13, vcsE14 → Z14, vcsE15 → Z15, vcsE16 → Z16, vcsE17 → Z17, vcsE18 → Z18, vcsE19 → Z19, get → Z20, look → Z21, put → Z22, pureFn → Z23, findOrd → Z24, unF → Z25, dstOk → Z26, isFloatT → Z27, endVC → Z28, resFn → Z29, packC → Z30, newFn → Z31, storeFn → Z32, buildFn → Z33, known → Z35, aggT → Z36, cellsC → Z37, findCon → Z39, allV → Z42, partsV → Z43, partsC → Z44, fillL → Z45, exitTo → Z46, fAr → Z47, eqFn → Z50, eqFieldsFn → Z51, eqElemsFn → Z52, partFn → Z53, sliceFn → Z54, boundFn → Z55, AppV → Z56, CopyV → Z57, MakeSliceV → Z58, NewsV → Z59, GrowV → Z60, TextV → Z61, bytesL → Z62, notInt → Z63, typeAt → Z64, argAt → Z65, den → Z70
open Go renaming undef → Z34
open Go.Value renaming cells → Z38, oneCell' → Z49
open Go.Sx.Con renaming pure → Z40, some → Z41, read → Z66, make → Z67, ext → Z68, rel → Z69, extS → Z71, draw → Z72, step → Z73
open Go.Sx.C renaming one → Z48
open Go.Sx.Draws renaming steps → Z74

theorem heightsC_c (c : Int) (w : World) : Calls Try.prog 46 #[.int .i64 c] w fun e w' => e = .returned (.agg #[.int .i64 (dB c), .int .i64 (dF c)]) ∧ RowKit.Below w.heap.size w w' := by
  refine (plain_of_vcs ⟨[], []⟩ hmx Try.func46 rfl (by kernel_rfl) (args := [.int .i64 c]) (by simp [Try.ntmps46]) w (· = .agg #[.int .i64 (dB c), .int .i64 (dF c)]) 400 ?_).mono fun e w' ⟨v, h1, h2, h3⟩ => ⟨h2 ▸ h1, h3⟩
  by_cases h1 : c = 1
  · subst h1; simp (maxSteps := 4000000) -dsimp [-List.all_eq_true, -Array.all_eq_true, -Bool.exists_bool, -Bool.forall_bool, Z1, Z2, Z3, Z4, Z5, Z6, Z7, Z8, Z9, Z10, Z11, Z12, Z13, Z14, Z15, Z16, Z17, Z18, Z19, Z20, Z21, Z22, Z23, Z24, Z25, Z26, Z27, Z28, Z29, Z30, Z31, Z32, Z33, Z34, Z35, Z36, Z37, Z38, Z39, Z40, Z41, Z42, Z43, Z44, Z45, Z46, Z47, Z48, Z49, Z50, Z51, Z52, Z53, and_assoc, List.zipIdx, Z54, Z55, Z56, Z57, Z58, Z59, Z60, Z61, Z62, Z63, Z64, Z65, Z66, Z67, Z68, Z69, Z70, Z71, Z72, Z73, Z74, Try.f46, dB, dF]
  · by_cases h4 : c = 4
    · subst h4; simp (maxSteps := 4000000) -dsimp [-List.all_eq_true, -Array.all_eq_true, -Bool.exists_bool, -Bool.forall_bool, Z1, Z2, Z3, Z4, Z5, Z6, Z7, Z8, Z9, Z10, Z11, Z12, Z13, Z14, Z15, Z16, Z17, Z18, Z19, Z20, Z21, Z22, Z23, Z24, Z25, Z26, Z27, Z28, Z29, Z30, Z31, Z32, Z33, Z34, Z35, Z36, Z37, Z38, Z39, Z40, Z41, Z42, Z43, Z44, Z45, Z46, Z47, Z48, Z49, Z50, Z51, Z52, Z53, and_assoc, List.zipIdx, Z54, Z55, Z56, Z57, Z58, Z59, Z60, Z61, Z62, Z63, Z64, Z65, Z66, Z67, Z68, Z69, Z70, Z71, Z72, Z73, Z74, Try.f46, dB, dF]
    · by_cases h5 : c = 5
      · subst h5; simp (maxSteps := 4000000) -dsimp [-List.all_eq_true, -Array.all_eq_true, -Bool.exists_bool, -Bool.forall_bool, Z1, Z2, Z3, Z4, Z5, Z6, Z7, Z8, Z9, Z10, Z11, Z12, Z13, Z14, Z15, Z16, Z17, Z18, Z19, Z20, Z21, Z22, Z23, Z24, Z25, Z26, Z27, Z28, Z29, Z30, Z31, Z32, Z33, Z34, Z35, Z36, Z37, Z38, Z39, Z40, Z41, Z42, Z43, Z44, Z45, Z46, Z47, Z48, Z49, Z50, Z51, Z52, Z53, and_assoc, List.zipIdx, Z54, Z55, Z56, Z57, Z58, Z59, Z60, Z61, Z62, Z63, Z64, Z65, Z66, Z67, Z68, Z69, Z70, Z71, Z72, Z73, Z74, Try.f46, dB, dF]
      · by_cases h11 : c = 11
        · subst h11; simp (maxSteps := 4000000) -dsimp [-List.all_eq_true, -Array.all_eq_true, -Bool.exists_bool, -Bool.forall_bool, Z1, Z2, Z3, Z4, Z5, Z6, Z7, Z8, Z9, Z10, Z11, Z12, Z13, Z14, Z15, Z16, Z17, Z18, Z19, Z20, Z21, Z22, Z23, Z24, Z25, Z26, Z27, Z28, Z29, Z30, Z31, Z32, Z33, Z34, Z35, Z36, Z37, Z38, Z39, Z40, Z41, Z42, Z43, Z44, Z45, Z46, Z47, Z48, Z49, Z50, Z51, Z52, Z53, and_assoc, List.zipIdx, Z54, Z55, Z56, Z57, Z58, Z59, Z60, Z61, Z62, Z63, Z64, Z65, Z66, Z67, Z68, Z69, Z70, Z71, Z72, Z73, Z74, Try.f46, dB, dF]
        · by_cases h7 : c = 7
          · subst h7; simp (maxSteps := 4000000) -dsimp [-List.all_eq_true, -Array.all_eq_true, -Bool.exists_bool, -Bool.forall_bool, Z1, Z2, Z3, Z4, Z5, Z6, Z7, Z8, Z9, Z10, Z11, Z12, Z13, Z14, Z15, Z16, Z17, Z18, Z19, Z20, Z21, Z22, Z23, Z24, Z25, Z26, Z27, Z28, Z29, Z30, Z31, Z32, Z33, Z34, Z35, Z36, Z37, Z38, Z39, Z40, Z41, Z42, Z43, Z44, Z45, Z46, Z47, Z48, Z49, Z50, Z51, Z52, Z53, and_assoc, List.zipIdx, Z54, Z55, Z56, Z57, Z58, Z59, Z60, Z61, Z62, Z63, Z64, Z65, Z66, Z67, Z68, Z69, Z70, Z71, Z72, Z73, Z74, Try.f46, dB, dF]
          · by_cases h9 : c = 9
            · subst h9; simp (maxSteps := 4000000) -dsimp [-List.all_eq_true, -Array.all_eq_true, -Bool.exists_bool, -Bool.forall_bool, Z1, Z2, Z3, Z4, Z5, Z6, Z7, Z8, Z9, Z10, Z11, Z12, Z13, Z14, Z15, Z16, Z17, Z18, Z19, Z20, Z21, Z22, Z23, Z24, Z25, Z26, Z27, Z28, Z29, Z30, Z31, Z32, Z33, Z34, Z35, Z36, Z37, Z38, Z39, Z40, Z41, Z42, Z43, Z44, Z45, Z46, Z47, Z48, Z49, Z50, Z51, Z52, Z53, and_assoc, List.zipIdx, Z54, Z55, Z56, Z57, Z58, Z59, Z60, Z61, Z62, Z63, Z64, Z65, Z66, Z67, Z68, Z69, Z70, Z71, Z72, Z73, Z74, Try.f46, dB, dF]
            · simp (maxSteps := 4000000) -dsimp [-List.all_eq_true, -Array.all_eq_true, -Bool.exists_bool, -Bool.forall_bool, Z1, Z2, Z3, Z4, Z5, Z6, Z7, Z8, Z9, Z10, Z11, Z12, Z13, Z14, Z15, Z16, Z17, Z18, Z19, Z20, Z21, Z22, Z23, Z24, Z25, Z26, Z27, Z28, Z29, Z30, Z31, Z32, Z33, Z34, Z35, Z36, Z37, Z38, Z39, Z40, Z41, Z42, Z43, Z44, Z45, Z46, Z47, Z48, Z49, Z50, Z51, Z52, Z53, and_assoc, List.zipIdx, Z54, Z55, Z56, Z57, Z58, Z59, Z60, Z61, Z62, Z63, Z64, Z65, Z66, Z67, Z68, Z69, Z70, Z71, Z72, Z73, Z74, Try.f46, dB, dF, h1, h4, h5, h11, h7, h9]
def heightsC : Con Try.prog := Con.pure 46 Try.call46 (fun (c : ((Int))) => [.int .i64 c]) (fun (c : ((Int))) => True) (fun (c : ((Int))) => .agg #[.int .i64 (dB c), .int .i64 (dF c)]) fun c w _ => heightsC_c c w
theorem thenC_c (a b c : Int) (hpre : -1048576 ≤ a ∧ a ≤ 1048576 ∧ -1048576 ≤ b ∧ b ≤ 1048576) (w : World) : Calls Try.prog 30 #[.agg #[.int .i64 a, .int .i64 b], .int .i64 c] w fun e w' => e = .returned (.agg #[.int .i64 (a + dB c), .int .i64 (b + dF c)]) ∧ RowKit.Below w.heap.size w w' := by
  refine (plain_of_vcs ⟨[heightsC], []⟩ hmx Try.func30 rfl (by kernel_rfl) (args := [.agg #[.int .i64 a, .int .i64 b], .int .i64 c]) (by simp [Try.ntmps30]) w (· = .agg #[.int .i64 (a + dB c), .int .i64 (b + dF c)]) 400 ?_).mono fun e w' ⟨v, h1, h2, h3⟩ => ⟨h2 ▸ h1, h3⟩
  have h1 := dB_abs c
  have h2 := dF_abs c
  have e1 : IntKind.i64.wrap (a + dB c) = a + dB c := wrap_i64 (by omega) (by omega)
  have e2 : IntKind.i64.wrap (b + dF c) = b + dF c := wrap_i64 (by omega) (by omega)
  simp (maxSteps := 4000000) -dsimp [-List.all_eq_true, -Array.all_eq_true, -Bool.exists_bool, -Bool.forall_bool, Z1, Z2, Z3, Z4, Z5, Z6, Z7, Z8, Z9, Z10, Z11, Z12, Z13, Z14, Z15, Z16, Z17, Z18, Z19, Z20, Z21, Z22, Z23, Z24, Z25, Z26, Z27, Z28, Z29, Z30, Z31, Z32, Z33, Z34, Z35, Z36, Z37, Z38, Z39, Z40, Z41, Z42, Z43, Z44, Z45, Z46, Z47, Z48, Z49, Z50, Z51, Z52, Z53, and_assoc, List.zipIdx, Z54, Z55, Z56, Z57, Z58, Z59, Z60, Z61, Z62, Z63, Z64, Z65, Z66, Z67, Z68, Z69, Z70, Z71, Z72, Z73, Z74, Try.f30, heightsC, e1, e2]
def thenC : Con Try.prog := Con.pure 30 Try.call30 (fun (i : ((Int) × (Int) × (Int))) => match i with | (a, b, c) => [.agg #[.int .i64 a, .int .i64 b], .int .i64 c]) (fun (i : ((Int) × (Int) × (Int))) => match i with | (a, b, c) => -1048576 ≤ a ∧ a ≤ 1048576 ∧ -1048576 ≤ b ∧ b ≤ 1048576) (fun (i : ((Int) × (Int) × (Int))) => match i with | (a, b, c) => .agg #[.int .i64 (a + dB c), .int .i64 (b + dF c)]) fun i w hp => thenC_c i.1 i.2.1 i.2.2 hp w
theorem sureTraceC_c (o : Option Addr) (cap : Nat) (xs : List Ins) (w : World) (hpre : RdN (factF ⟨w, [], w, []⟩) o xs ∧ xs.length ≤ 1048576) : Calls Try.prog 11 #[.slice o xs.length cap] w fun e w' => ∃ v, e = .returned v ∧ RowKit.Below w.heap.size w w' ∧ IsTr (fun a => if w.heap.size ≤ a.block then w'.cell? a else none) v xs := by
  refine make_of_vcs ⟨[thenC], []⟩ hmx Try.func11 rfl (by kernel_rfl) (args := [.slice o xs.length cap]) (by simp [Try.ntmps11]) w (fun v F => IsTr F v xs) 400 ?_
  obtain ⟨h, hl⟩ := hpre
  by_cases hm : xs.length ≤ 1000
  · have hm1 : ¬ (1000 : Int) < xs.length := by omega
    simp (maxSteps := 4000000) -dsimp [-List.all_eq_true, -Array.all_eq_true, -Bool.exists_bool, -Bool.forall_bool, Z1, Z2, Z3, Z4, Z5, Z6, Z7, Z8, Z9, Z10, Z11, Z12, Z13, Z14, Z15, Z16, Z17, Z18, Z19, Z20, Z21, Z22, Z23, Z24, Z25, Z26, Z27, Z28, Z29, Z30, Z31, Z32, Z33, Z34, Z35, Z36, Z37, Z38, Z39, Z40, Z41, Z42, Z43, Z44, Z45, Z46, Z47, Z48, Z49, Z50, Z51, Z52, Z53, and_assoc, List.zipIdx, Z54, Z55, Z56, Z57, Z58, Z59, Z60, Z61, Z62, Z63, Z64, Z65, Z66, Z67, Z68, Z69, Z70, Z71, Z72, Z73, Z74, Try.f11, thenC, hm1]
    intro b b1
    refine loop_inv (σ := ⟨[thenC], []⟩) hmx (by kernel_rfl) (fun q cx tm mem => Le ⟨w, [], w, []⟩ cx ∧ ∃ (i b' cp : Nat) (pad : List C), i ≤ xs.length ∧ q = xs.length - i ∧ i ≤ cp ∧ cp ≤ maxLen ∧ pad.length = (cp - i) * 2 ∧ mem = [⟨b', trC xs i ++ pad, 52⟩, ⟨b1, [.v (.int .i64 (hB xs i)), .v (.int .i64 (hF xs i))], 52⟩] ∧ Sx.look tm 15 = .v (.int .i64 i) ∧ Sx.look tm 14 = .v (.int .i64 xs.length) ∧ Sx.look tm 13 = .v (.slice o xs.length cap) ∧ Sx.look tm 4 = .p 1 b1 0 ∧ Sx.look tm 3 = .s 0 b' 0 i cp)
      xs.length ⟨Le.refl _, 0, b, 0, [], by omega, rfl, by omega, by decide, rfl, rfl, by simp [Sx.look], by simp [Sx.look], by simp [Sx.look], by simp [Sx.look], by simp [Sx.look]⟩ ?_
    rintro q cx tm mem ⟨hle, i, b', cp, pad, hi, rfl, hicp, hcp, hpad, rfl, h15, h14, h13, h4, h3⟩
    refine ⟨300, ?_⟩
    have hc := h.mono hle.fact
    by_cases hlt : i < xs.length
    · obtain ⟨x, hx⟩ : ∃ x, xs[i]? = some x := ⟨xs[i], by simp [hlt]⟩
      obtain ⟨o', cap', hat⟩ := hc.at hx
      have a1 := hB_abs xs i hi
      have a2 := hF_abs xs i hi
      have hp : -1048576 ≤ hB xs i ∧ hB xs i ≤ 1048576 ∧ -1048576 ≤ hF xs i ∧ hF xs i ≤ 1048576 := by omega
      simp (maxSteps := 4000000) -dsimp [-List.all_eq_true, -Array.all_eq_true, -Bool.exists_bool, -Bool.forall_bool, Z1, Z2, Z3, Z4, Z5, Z6, Z7, Z8, Z9, Z10, Z11, Z12, Z13, Z14, Z15, Z16, Z17, Z18, Z19, Z20, Z21, Z22, Z23, Z24, Z25, Z26, Z27, Z28, Z29, Z30, Z31, Z32, Z33, Z34, Z35, Z36, Z37, Z38, Z39, Z40, Z41, Z42, Z43, Z44, Z45, Z46, Z47, Z48, Z49, Z50, Z51, Z52, Z53, and_assoc, List.zipIdx, Z54, Z55, Z56, Z57, Z58, Z59, Z60, Z61, Z62, Z63, Z64, Z65, Z66, Z67, Z68, Z69, Z70, Z71, Z72, Z73, Z74, Try.f11, thenC, h15, h14, h13, h4, h3, hlt, hc.there hlt, hat.all, hp]
      intro b2 cx' p hle' hlit
      rw [RdO.sl (size := 2) (rows := [[.int .i64 (hB xs i + dB x.code), .int .i64 (hF xs i + dF x.code)]]) ((hlit.mono ((sub_new cx').trans (sub_now _ _))).rows (by decide) (by simp) (by simp)) (by decide) (by simp)]
      have e0 := trC_take xs i pad
      have e1 := trC_len xs i
      unfold GrowV
      simp (maxSteps := 4000000) -dsimp [-List.all_eq_true, -Array.all_eq_true, -Bool.exists_bool, -Bool.forall_bool, Z1, Z2, Z3, Z4, Z5, Z6, Z7, Z8, Z9, Z10, Z11, Z12, Z13, Z14, Z15, Z16, Z17, Z18, Z19, Z20, Z21, Z22, Z23, Z24, Z25, Z26, Z27, Z28, Z29, Z30, Z31, Z32, Z33, Z34, Z35, Z36, Z37, Z38, Z39, Z40, Z41, Z42, Z43, Z44, Z45, Z46, Z47, Z48, Z49, Z50, Z51, Z52, Z53, and_assoc, List.zipIdx, Z54, Z55, Z56, Z57, Z58, Z59, Z60, Z61, Z62, Z63, Z64, Z65, Z66, Z67, Z68, Z69, Z70, Z71, Z72, Z73, Z74, Try.f11, thenC, h15, h14, h13, h4, h3, e0, e1, i_succ (i := i) (by omega)]
      have em : i + 1 ≤ maxLen := by unfold maxLen; omega
      refine ⟨by omega, hicp, hcp, em, by omega, fun b4 cp4 pad4 g1 g2 g3 => ⟨2, _, ?_, hle.trans hle', i + 1, by omega, rfl, b4, cp4, g1, g2, pad4, g3, ?_, by omega, rfl, rfl, rfl⟩⟩
      · omega
      · rw [trC_succ hx, hB_succ hx, hF_succ hx]; simp
    · obtain rfl : i = xs.length := by omega
      simp (maxSteps := 4000000) -dsimp [-List.all_eq_true, -Array.all_eq_true, -Bool.exists_bool, -Bool.forall_bool, Z1, Z2, Z3, Z4, Z5, Z6, Z7, Z8, Z9, Z10, Z11, Z12, Z13, Z14, Z15, Z16, Z17, Z18, Z19, Z20, Z21, Z22, Z23, Z24, Z25, Z26, Z27, Z28, Z29, Z30, Z31, Z32, Z33, Z34, Z35, Z36, Z37, Z38, Z39, Z40, Z41, Z42, Z43, Z44, Z45, Z46, Z47, Z48, Z49, Z50, Z51, Z52, Z53, and_assoc, List.zipIdx, Z54, Z55, Z56, Z57, Z58, Z59, Z60, Z61, Z62, Z63, Z64, Z65, Z66, Z67, Z68, Z69, Z70, Z71, Z72, Z73, Z74, Try.f11, thenC, h15, h14, h13, h4, h3]
      have hn : trN xs = xs.length := by unfold trN; rw [if_pos hm]
      refine ⟨hle.w0, hle.g0, fun w' hw => ⟨⟨_, cp, by rw [hn]; rfl, by rw [hn]; exact RdO.fin hle.w0 hle.g0 hw (k := 0) rfl trRows_two (trC_den xs xs.length pad), by omega, hcp⟩⟩⟩
  · have hm1 : (1000 : Int) < xs.length := by omega
    simp (maxSteps := 4000000) -dsimp [-List.all_eq_true, -Array.all_eq_true, -Bool.exists_bool, -Bool.forall_bool, Z1, Z2, Z3, Z4, Z5, Z6, Z7, Z8, Z9, Z10, Z11, Z12, Z13, Z14, Z15, Z16, Z17, Z18, Z19, Z20, Z21, Z22, Z23, Z24, Z25, Z26, Z27, Z28, Z29, Z30, Z31, Z32, Z33, Z34, Z35, Z36, Z37, Z38, Z39, Z40, Z41, Z42, Z43, Z44, Z45, Z46, Z47, Z48, Z49, Z50, Z51, Z52, Z53, and_assoc, List.zipIdx, Z54, Z55, Z56, Z57, Z58, Z59, Z60, Z61, Z62, Z63, Z64, Z65, Z66, Z67, Z68, Z69, Z70, Z71, Z72, Z73, Z74, Try.f11, thenC, hm1]
    intro b b1
    have hn : trN xs = 0 := by unfold trN; rw [if_neg hm]
    refine ⟨rfl, rfl, fun w' hm => ⟨⟨_, 0, by rw [hn]; rfl, by rw [hn]; exact RdO.nil _ _ _, by omega, by decide⟩⟩⟩
def sureTraceC_S : Makes Try.prog 11 where
  ι := ((Option Addr) × (Nat) × (List Ins))
  A := fun (i : ((Option Addr) × (Nat) × (List Ins))) => match i with | (o, cap, xs) => [.slice o xs.length cap]
  pre := fun (i : ((Option Addr) × (Nat) × (List Ins))) (F : Facts) => match i with | (o, cap, xs) => RdN F o xs ∧ xs.length ≤ 1048576
  post := fun (i : ((Option Addr) × (Nat) × (List Ins))) (v : Value) (F : Facts) => match i with | (o, cap, xs) => IsTr F v xs
  mono := by
    intro i F G hs h
    first | exact h | exact h.mono hs | exact ⟨h.1.mono hs, h.2⟩ | exact ⟨h.1.mono hs, h.2.1.mono hs, h.2.2⟩ | exact ⟨h.1.mono hs, h.2.1.mono hs⟩
  monoP := fun i v F G hs h => h.mono hs
  enter := Try.call11
  h := fun i w hp => sureTraceC_c i.1 i.2.1 i.2.2 w (by rw [factF_init]; exact hp)
def sureTraceC : Con Try.prog := Con.make sureTraceC_S
end Go.Proofs.Ytfhnbdlkiemaeaa
namespace Go.Proofs.Ytfhnbdlkiemaeaa
open Go Go.Sx
open Go.Sx renaming vcsE1 → Z1, vcsE2 → Z2, vcsE3 → Z3, vcsE4 → Z4, vcsE5 → Z5, vcsE6 → Z6, vcsE7 → Z7, vcsE8 → Z8, vcsE9 → Z9, vcsE10 → Z10, vcsE11 → Z11, vcsE12 → Z12, vcsE13 → Z13, vcsE14 → Z14, vcsE15 → Z15, vcsE16 → Z16, vcsE17 → Z17, vcsE18 → Z18, vcsE19 → Z19, get → Z20, look → Z21, put → Z22, pureFn → Z23, findOrd → Z24, unF → Z25, dstOk → Z26, isFloatT → Z27, endVC → Z28, resFn → Z29, packC → Z30, newFn → Z31, storeFn → Z32, buildFn → Z33, known → Z35, aggT → Z36, cellsC → Z37, findCon → Z39, allV → Z42, partsV → Z43, partsC → Z44, fillL → Z45, exitTo → Z46, fAr → Z47, eqFn → Z50, eqFieldsFn → Z51, eqElemsFn → Z52, partFn → Z53, sliceFn → Z54, boundFn → Z55, AppV → Z56, CopyV → Z57, MakeSliceV → Z58, NewsV → Z59, GrowV → Z60, TextV → Z61, bytesL → Z62, notInt → Z63, typeAt → Z64, argAt → Z65, den → Z70
open Go renaming undef → Z34
open Go.Value renaming cells → Z38, oneCell' → Z49
open Go.Sx.Con renaming pure → Z40, some → Z41, read → Z66, make → Z67, ext → Z68, rel → Z69, extS → Z71, draw → Z72, step → Z73
open Go.Sx.C renaming one → Z48
open Go.Sx.Draws renaming steps → Z74

theorem code_cases (c : Int) : c = 1 ∨ c = 4 ∨ c = 5 ∨ c = 11 ∨ c = 7 ∨ c = 9 ∨ (c ≠ 1 ∧ c ≠ 4 ∧ c ≠ 5 ∧ c ≠ 11 ∧ c ≠ 7 ∧ c ≠ 9) := by omega
theorem sSureTraceC_c (o : Option Addr) (cap : Nat) (xs : List Ins) (w : World) (hpre : RdN (factF ⟨w, [], w, []⟩) o xs ∧ xs.length ≤ 1048576) : Calls Try.prog 9 #[.slice o xs.length cap] w fun e w' => ∃ v, e = .returned v ∧ RowKit.Below w.heap.size w w' ∧ IsTr (fun a => if w.heap.size ≤ a.block then w'.cell? a else none) v xs := by
  refine make_of_vcs ⟨[], []⟩ hmx Try.func9 rfl (by kernel_rfl) (args := [.slice o xs.length cap]) (by simp [Try.ntmps9]) w (fun v F => IsTr F v xs) 400 ?_
  obtain ⟨h, hl⟩ := hpre
  by_cases hm : xs.length ≤ 1000
  · have hm1 : ¬ (1000 : Int) < xs.length := by omega
    simp (maxSteps := 4000000) -dsimp [-List.all_eq_true, -Array.all_eq_true, -Bool.exists_bool, -Bool.forall_bool, Z1, Z2, Z3, Z4, Z5, Z6, Z7, Z8, Z9, Z10, Z11, Z12, Z13, Z14, Z15, Z16, Z17, Z18, Z19, Z20, Z21, Z22, Z23, Z24, Z25, Z26, Z27, Z28, Z29, Z30, Z31, Z32, Z33, Z34, Z35, Z36, Z37, Z38, Z39, Z40, Z41, Z42, Z43, Z44, Z45, Z46, Z47, Z48, Z49, Z50, Z51, Z52, Z53, and_assoc, List.zipIdx, Z54, Z55, Z56, Z57, Z58, Z59, Z60, Z61, Z62, Z63, Z64, Z65, Z66, Z67, Z68, Z69, Z70, Z71, Z72, Z73, Z74, Try.f9, hm1]
    intro b b1
    refine loop_inv (σ := ⟨[], []⟩) hmx (by kernel_rfl) (fun q cx tm mem => Le ⟨w, [], w, []⟩ cx ∧ ∃ (i b' cp : Nat) (pad : List C), i ≤ xs.length ∧ q = xs.length - i ∧ i ≤ cp ∧ cp ≤ maxLen ∧ pad.length = (cp - i) * 2 ∧ mem = [⟨b', trC xs i ++ pad, 52⟩, ⟨b1, [.v (.int .i64 (hB xs i)), .v (.int .i64 (hF xs i))], 52⟩] ∧ Sx.look tm 5 = .v (.int .i64 i) ∧ Sx.look tm 0 = .v (.slice o xs.length cap) ∧ Sx.look tm 4 = .p 1 b1 0 ∧ Sx.look tm 3 = .s 0 b' 0 i cp)
      xs.length ⟨Le.refl _, 0, b, 0, [], by omega, rfl, by omega, by decide, rfl, rfl, by simp [Sx.look], by simp [Sx.look], by simp [Sx.look], by simp [Sx.look]⟩ ?_
    rintro q cx tm mem ⟨hle, i, b', cp, pad, hi, rfl, hicp, hcp, hpad, rfl, h5, h0, h4, h3⟩
    refine ⟨300, ?_⟩
    have hc := h.mono hle.fact
    by_cases hlt : i < xs.length
    · obtain ⟨x, hx⟩ : ∃ x, xs[i]? = some x := ⟨xs[i], by simp [hlt]⟩
      obtain ⟨o', cap', hat⟩ := hc.at hx
      have a1 := hB_abs xs i hi
      have a2 := hF_abs xs i hi
      have e0 := trC_take xs i pad
      have e1 := trC_len xs i
      have em : i + 1 ≤ maxLen := by unfold maxLen; omega
      have w1 : IntKind.i64.wrap (hB xs i + 1) = hB xs i + 1 := wrap_i64 (by omega) (by omega)
      have w2 : IntKind.i64.wrap (hB xs i - 1) = hB xs i - 1 := wrap_i64 (by omega) (by omega)
      have w3 : IntKind.i64.wrap (hF xs i + 1) = hF xs i + 1 := wrap_i64 (by omega) (by omega)
      have w4 : IntKind.i64.wrap (hF xs i - 1) = hF xs i - 1 := wrap_i64 (by omega) (by omega)
      have key : ∀ (db df : Int), dB x.code = db → dF x.code = df → hB xs (i + 1) = hB xs i + db ∧ hF xs (i + 1) = hF xs i + df ∧ trC xs (i + 1) = trC xs i ++ [.v (.int .i64 (hB xs i + db)), .v (.int .i64 (hF xs i + df))] := by
        rintro db df rfl rfl; exact ⟨hB_succ hx, hF_succ hx, trC_succ hx⟩
      obtain c | c | c | c | c | c | c := code_cases x.code
      all_goals
        simp (maxSteps := 4000000) -dsimp [-List.all_eq_true, -Array.all_eq_true, -Bool.exists_bool, -Bool.forall_bool, Z1, Z2, Z3, Z4, Z5, Z6, Z7, Z8, Z9, Z10, Z11, Z12, Z13, Z14, Z15, Z16, Z17, Z18, Z19, Z20, Z21, Z22, Z23, Z24, Z25, Z26, Z27, Z28, Z29, Z30, Z31, Z32, Z33, Z34, Z35, Z36, Z37, Z38, Z39, Z40, Z41, Z42, Z43, Z44, Z45, Z46, Z47, Z48, Z49, Z50, Z51, Z52, Z53, and_assoc, List.zipIdx, Z54, Z55, Z56, Z57, Z58, Z59, Z60, Z61, Z62, Z63, Z64, Z65, Z66, Z67, Z68, Z69, Z70, Z71, Z72, Z73, Z74, Try.f9, h5, h0, h4, h3, hlt, hc.there hlt, hat.code, c, w1, w2, w3, w4]
        intro cx' p hle' hlit
        rw [RdO.sl (size := 2) (rows := [[_, _]]) ((hlit.mono ((sub_new cx').trans (sub_now _ _))).rows (by decide) (by simp) (by simp only [List.flatten_cons, List.flatten_nil, List.append_nil]; rfl)) (by decide) (by simp)]
        unfold GrowV
        simp (maxSteps := 4000000) -dsimp [-List.all_eq_true, -Array.all_eq_true, -Bool.exists_bool, -Bool.forall_bool, Z1, Z2, Z3, Z4, Z5, Z6, Z7, Z8, Z9, Z10, Z11, Z12, Z13, Z14, Z15, Z16, Z17, Z18, Z19, Z20, Z21, Z22, Z23, Z24, Z25, Z26, Z27, Z28, Z29, Z30, Z31, Z32, Z33, Z34, Z35, Z36, Z37, Z38, Z39, Z40, Z41, Z42, Z43, Z44, Z45, Z46, Z47, Z48, Z49, Z50, Z51, Z52, Z53, and_assoc, List.zipIdx, Z54, Z55, Z56, Z57, Z58, Z59, Z60, Z61, Z62, Z63, Z64, Z65, Z66, Z67, Z68, Z69, Z70, Z71, Z72, Z73, Z74, Try.f9, h5, h0, h4, h3, e0, e1, i_succ (i := i) (by omega)]
        refine ⟨by omega, hicp, hcp, em, by omega, fun b4 cp4 pad4 g1 g2 g3 => ⟨2, _, ?_, hle.trans hle', i + 1, by omega, rfl, b4, cp4, g1, g2, pad4, g3, ?_, by omega, rfl, rfl, rfl⟩⟩
        · omega
        · obtain ⟨k1, k2, k3⟩ := key _ _ (by simp only [dB, c]; rfl) (by simp only [dF, c]; rfl)
          rw [k3, k1, k2]; simp [Int.sub_eq_add_neg]
    · obtain rfl : i = xs.length := by omega
      simp (maxSteps := 4000000) -dsimp [-List.all_eq_true, -Array.all_eq_true, -Bool.exists_bool, -Bool.forall_bool, Z1, Z2, Z3, Z4, Z5, Z6, Z7, Z8, Z9, Z10, Z11, Z12, Z13, Z14, Z15, Z16, Z17, Z18, Z19, Z20, Z21, Z22, Z23, Z24, Z25, Z26, Z27, Z28, Z29, Z30, Z31, Z32, Z33, Z34, Z35, Z36, Z37, Z38, Z39, Z40, Z41, Z42, Z43, Z44, Z45, Z46, Z47, Z48, Z49, Z50, Z51, Z52, Z53, and_assoc, List.zipIdx, Z54, Z55, Z56, Z57, Z58, Z59, Z60, Z61, Z62, Z63, Z64, Z65, Z66, Z67, Z68, Z69, Z70, Z71, Z72, Z73, Z74, Try.f9, h5, h0, h4, h3]
      have hn : trN xs = xs.length := by unfold trN; rw [if_pos hm]
      refine ⟨hle.w0, hle.g0, fun w' hw => ⟨⟨_, cp, by rw [hn]; rfl, by rw [hn]; exact RdO.fin hle.w0 hle.g0 hw (k := 0) rfl trRows_two (trC_den xs xs.length pad), by omega, hcp⟩⟩⟩
  · have hm1 : (1000 : Int) < xs.length := by omega
    simp (maxSteps := 4000000) -dsimp [-List.all_eq_true, -Array.all_eq_true, -Bool.exists_bool, -Bool.forall_bool, Z1, Z2, Z3, Z4, Z5, Z6, Z7, Z8, Z9, Z10, Z11, Z12, Z13, Z14, Z15, Z16, Z17, Z18, Z19, Z20, Z21, Z22, Z23, Z24, Z25, Z26, Z27, Z28, Z29, Z30, Z31, Z32, Z33, Z34, Z35, Z36, Z37, Z38, Z39, Z40, Z41, Z42, Z43, Z44, Z45, Z46, Z47, Z48, Z49, Z50, Z51, Z52, Z53, and_assoc, List.zipIdx, Z54, Z55, Z56, Z57, Z58, Z59, Z60, Z61, Z62, Z63, Z64, Z65, Z66, Z67, Z68, Z69, Z70, Z71, Z72, Z73, Z74, Try.f9, hm1]
    intro b
    have hn : trN xs = 0 := by unfold trN; rw [if_neg hm]
    refine ⟨rfl, rfl, fun w' hm => ⟨⟨_, 0, by rw [hn]; rfl, by rw [hn]; exact RdO.nil _ _ _, by omega, by decide⟩⟩⟩
def sSureTraceC_S : Makes Try.prog 9 where
  ι := ((Option Addr) × (Nat) × (List Ins))
  A := fun (i : ((Option Addr) × (Nat) × (List Ins))) => match i with | (o, cap, xs) => [.slice o xs.length cap]
  pre := fun (i : ((Option Addr) × (Nat) × (List Ins))) (F : Facts) => match i with | (o, cap, xs) => RdN F o xs ∧ xs.length ≤ 1048576
  post := fun (i : ((Option Addr) × (Nat) × (List Ins))) (v : Value) (F : Facts) => match i with | (o, cap, xs) => IsTr F v xs
  mono := by
    intro i F G hs h
    first | exact h | exact h.mono hs | exact ⟨h.1.mono hs, h.2⟩ | exact ⟨h.1.mono hs, h.2.1.mono hs, h.2.2⟩ | exact ⟨h.1.mono hs, h.2.1.mono hs⟩
  monoP := fun i v F G hs h => h.mono hs
  enter := Try.call9
  h := fun i w hp => sSureTraceC_c i.1 i.2.1 i.2.2 w (by rw [factF_init]; exact hp)
def sSureTraceC : Con Try.prog := Con.make sSureTraceC_S
end Go.Proofs.Ytfhnbdlkiemaeaa
