/-
  Contracts: the real numbers of operands.
-/
import Derived.Test.YtfhnbdlkiemaeaaGreatHmt
import Derived.Test.YtfhnbdlkiemaeaaGreatKmt
import Derived.Laws.Externs
set_option linter.unusedVariables false
set_option linter.unusedSimpArgs false
set_option maxRecDepth 100000
set_option maxHeartbeats 4000000
namespace Go.Proofs.YtfhnbdlkiemaeaaGreat
open Go Go.Sx
attribute [local simp] Sx.vcsE1 Sx.vcsE2 Sx.vcsE3 Sx.vcsE4 Sx.vcsE5 Sx.vcsE6 Sx.vcsE7 Sx.vcsE8 Sx.vcsE9 Sx.vcsE10 Sx.vcsE11 Sx.vcsE12 Sx.vcsE13 Sx.vcsE14 Sx.vcsE15 Sx.vcsE16 Sx.vcsE17 Sx.vcsE18 Sx.vcsE19 Sx.get Sx.look Sx.put Sx.pureFn Sx.findOrd Sx.unF Sx.dstOk Sx.isFloatT Sx.endVC Sx.resFn Sx.packC Sx.newFn Sx.storeFn Sx.buildFn Sx.known Sx.aggT Sx.cellsC Sx.findCon Sx.allV Sx.partsV Sx.partsC Sx.fillL Sx.exitTo Sx.fAr Sx.eqFn Sx.eqFieldsFn Sx.eqElemsFn Sx.partFn Sx.sliceFn Sx.boundFn Sx.AppV Sx.CopyV Sx.MakeSliceV Sx.NewsV Sx.GrowV Sx.TextV Sx.bytesL Sx.notInt Sx.typeAt Sx.argAt Sx.den Go.undef Go.Value.cells Go.Value.oneCell' Sx.Con.pure Sx.Con.some Sx.Con.read Sx.Con.make Sx.Con.ext Sx.Con.rel Sx.Con.extS Sx.Con.draw Sx.Con.step Sx.C.one Sx.Draws.steps

theorem frombits_run (n : Int) (w : World) : (callFunc 239 #[.int .u64 n]).run Tryz.prog w = .ok (.value (.float .f64 n.toNat)) w := by
  rw [run_callFunc_extern (e := Extern.MathFloatBits.float64frombits) Tryz.func239 (by kernel_rfl) (by kernel_rfl) (by kernel_rfl) (by kernel_rfl)]
  rfl
def frombitsC : Con Tryz.prog := Con.ext 239 (fun n : Int => [.int .u64 n]) (fun _ => True) (fun n => .float .f64 n.toNat) fun n w _ => frombits_run n w
theorem bits_run (b : Nat) (w : World) : (callFunc 106 #[.float .f64 b]).run Tryz.prog w = .ok (.value (.int .u64 b)) w := by
  rw [run_callFunc_extern (e := Extern.MathFloatBits.float64bits) Tryz.func106 (by kernel_rfl) (by kernel_rfl) (by kernel_rfl) (by kernel_rfl)]
  rfl
def bitsC : Con Tryz.prog := Con.ext 106 (fun n : Nat => [.float .f64 n]) (fun _ => True) (fun n => .int .u64 n) fun n w _ => bits_run n w

theorem nanC_c  (w : World) : Calls Tryz.prog 224 #[] w fun e w' => e = .returned (.float .f64 9221120237041090561) ∧ RowKit.Below w.heap.size w w' := by
  refine (plain_of_vcs ⟨[frombitsC], []⟩ hmx Tryz.func224 rfl (by kernel_rfl) (args := []) (by simp [Tryz.ntmps224]) w (· = .float .f64 9221120237041090561) 400 ?_).mono fun e w' ⟨v, h1, h2, h3⟩ => ⟨h2 ▸ h1, h3⟩
  simp (maxSteps := 4000000) -dsimp [-List.all_eq_true, -Array.all_eq_true, -Bool.exists_bool, -Bool.forall_bool, and_assoc, List.zipIdx, Tryz.f224, frombitsC]
def nanC : Con Tryz.prog := Con.pure 224 Tryz.call224 (fun (_u : Unit) => []) (fun (_u : Unit) => True) (fun (_u : Unit) => .float .f64 9221120237041090561) fun _u w _ => nanC_c  w
theorem infC_c (s : Int) (w : World) : Calls Tryz.prog 225 #[.int .i64 s] w fun e w' => e = .returned (.float .f64 (if 0 ≤ s then 9218868437227405312 else 18442240474082181120)) ∧ RowKit.Below w.heap.size w w' := by
  refine (plain_of_vcs ⟨[frombitsC], []⟩ hmx Tryz.func225 rfl (by kernel_rfl) (args := [.int .i64 s]) (by simp [Tryz.ntmps225]) w (· = .float .f64 (if 0 ≤ s then 9218868437227405312 else 18442240474082181120)) 400 ?_).mono fun e w' ⟨v, h1, h2, h3⟩ => ⟨h2 ▸ h1, h3⟩
  by_cases h : 0 ≤ s
  · have h' : ¬ s < 0 := by omega
    simp (maxSteps := 4000000) -dsimp [-List.all_eq_true, -Array.all_eq_true, -Bool.exists_bool, -Bool.forall_bool, and_assoc, List.zipIdx, Tryz.f225, frombitsC, h, h']
  · have h' : s < 0 := by omega
    simp (maxSteps := 4000000) -dsimp [-List.all_eq_true, -Array.all_eq_true, -Bool.exists_bool, -Bool.forall_bool, and_assoc, List.zipIdx, Tryz.f225, frombitsC, h, h']
def infC : Con Tryz.prog := Con.pure 225 Tryz.call225 (fun (s : ((Int))) => [.int .i64 s]) (fun (s : ((Int))) => True) (fun (s : ((Int))) => .float .f64 (if 0 ≤ s then 9218868437227405312 else 18442240474082181120)) fun s w _ => infC_c s w
theorem neg_inf : Op.negFloat FloatKind.f64 9218868437227405312 = 18442240474082181120 := by kernel_rfl
theorem neg_zero : Op.negFloat FloatKind.f64 0 = 9223372036854775808 := by kernel_rfl
theorem div_zero : FloatKind.f64.format.div 0 0 = none := by kernel_rfl
theorem div_one : FloatKind.f64.format.div 4607182418800017408 0 = some 9218868437227405312 := by kernel_rfl
theorem realArg_dec {n p : Int} {r : Nat} {t : Int} (hd : devOk 12 n p = true) (ht : (10 : Int) ^ p.toNat = t) (h : fRes FloatKind.f64 (FloatKind.f64.format.div (FloatKind.f64.nearest n) (FloatKind.f64.nearest t)) r) : realArgR 12 n p r := by
  unfold realArgR
  rw [if_pos hd, if_pos rfl, ht]; exact h
theorem realArg_word {n p : Int} {r : Nat} (hd : devOk 13 n p = true) (h : wordR n r) : realArgR 13 n p r := by
  unfold realArgR
  rw [if_pos hd, if_neg (by decide), if_pos rfl]; exact h
theorem realArg_none {k n p : Int} (h : devOk k n p = false ∨ (k ≠ 12 ∧ k ≠ 13)) : realArgR k n p 0 := by
  unfold realArgR
  rcases h with h | ⟨h1, h2⟩
  · rw [if_neg (by simp [h])]
  · rw [if_neg h1, if_neg h2]; simp
theorem dec_p {n p : Int} (hd : devOk 12 n p = true) : p = 1 ∨ p = 2 ∨ p = 3 ∨ p = 4 ∨ p = 5 ∨ p = 6 := by
  have := (devOk_iff 12 n p).1 hd
  omega
theorem word_n {n p : Int} (hd : devOk 13 n p = true) : n = 0 ∨ n = 1 ∨ n = 2 ∨ n = 3 := by
  have := (devOk_iff 13 n p).1 hd
  omega

theorem copysignC_c  (w : World) : Calls Tryz.prog 226 #[.float .f64 0, .float .f64 13830554455654793216] w fun e w' => e = .returned (.float .f64 9223372036854775808) ∧ RowKit.Below w.heap.size w w' := by
  refine (plain_of_vcs ⟨[frombitsC, bitsC], []⟩ hmx Tryz.func226 rfl (by kernel_rfl) (args := [.float .f64 0, .float .f64 13830554455654793216]) (by simp [Tryz.ntmps226]) w (· = .float .f64 9223372036854775808) 400 ?_).mono fun e w' ⟨v, h1, h2, h3⟩ => ⟨h2 ▸ h1, h3⟩
  simp (maxSteps := 4000000) -dsimp [-List.all_eq_true, -Array.all_eq_true, -Bool.exists_bool, -Bool.forall_bool, and_assoc, List.zipIdx, Tryz.f226, frombitsC, bitsC]
  rfl
def copysignC : Con Tryz.prog := Con.pure 226 Tryz.call226 (fun (_u : Unit) => [.float .f64 0, .float .f64 13830554455654793216]) (fun (_u : Unit) => True) (fun (_u : Unit) => .float .f64 9223372036854775808) fun _u w _ => copysignC_c  w
theorem realArgC_c (k n p : Int) (w : World) : Calls Tryz.prog 176 #[.agg #[.int .i64 k, .int .i64 n, .int .i64 p]] w fun e w' => e = .returned (.float .f64 (realArgF k n p)) ∧ RowKit.Below w.heap.size w w' := by
  refine (plain_of_vcs ⟨[devOkC, nanC, infC, copysignC], []⟩ hmx Tryz.func176 rfl (by kernel_rfl) (args := [.agg #[.int .i64 k, .int .i64 n, .int .i64 p]]) (by simp [Tryz.ntmps176]) w (· = .float .f64 (realArgF k n p)) 400 ?_).mono fun e w' ⟨v, h1, h2, h3⟩ => ⟨h2 ▸ h1, h3⟩
  simp (maxSteps := 4000000) -dsimp [-List.all_eq_true, -Array.all_eq_true, -Bool.exists_bool, -Bool.forall_bool, and_assoc, List.zipIdx, Tryz.f176, devOkC, nanC, infC, copysignC]
  refine fun b => ⟨fun h => by unfold realArgF; simp [h], fun hd => ⟨?_, fun h12 => ⟨?_, fun h13 => by unfold realArgF; simp [h12, h13]⟩⟩⟩
  · rintro rfl
    obtain rfl | rfl | rfl | rfl | rfl | rfl := dec_p hd
    all_goals
      repeat
        refine loop_unroll (σ := ⟨[devOkC, nanC, infC, copysignC], []⟩) (n := 400) hmx (by kernel_rfl) ?_
        simp (maxSteps := 4000000) -dsimp [-List.all_eq_true, -Array.all_eq_true, -Bool.exists_bool, -Bool.forall_bool, and_assoc, List.zipIdx, Tryz.f176, devOkC, nanC, infC, copysignC, IntKind.wrap, IntKind.signed, IntKind.bits]
      intro r hr
      exact realArgF_dec hd (by decide) hr
  · rintro rfl
    obtain rfl | rfl | rfl | rfl := word_n hd
    all_goals first | (simp [realArgF, hd, wordF, qnan]; done) | skip
def realArgC : Con Tryz.prog := Con.pure 176 Tryz.call176 (fun (i : ((Int) × (Int) × (Int))) => match i with | (k, n, p) => [.agg #[.int .i64 k, .int .i64 n, .int .i64 p]]) (fun (i : ((Int) × (Int) × (Int))) => match i with | (k, n, p) => True) (fun (i : ((Int) × (Int) × (Int))) => match i with | (k, n, p) => .float .f64 (realArgF k n p)) fun i w _ => realArgC_c i.1 i.2.1 i.2.2 w
theorem l3NanC_c  (w : World) : Calls Tryz.prog 163 #[] w fun e w' => ∃ v, e = .returned v ∧ (fun v => ∃ r, v = .float .f64 r ∧ isNan r = true ∧ r < 18446744073709551616) v ∧ RowKit.Below w.heap.size w w' := by
  refine plain_of_vcs ⟨[], []⟩ hmx Tryz.func163 rfl (by kernel_rfl) (args := []) (by simp [Tryz.ntmps163]) w (fun v => ∃ r, v = .float .f64 r ∧ isNan r = true ∧ r < 18446744073709551616) 400 ?_
  simp (maxSteps := 4000000) -dsimp [-List.all_eq_true, -Array.all_eq_true, -Bool.exists_bool, -Bool.forall_bool, and_assoc, List.zipIdx, Tryz.f163]
  intro r hr
  rw [div_zero] at hr
  obtain ⟨t, rfl⟩ := hr
  exact nan_cut
def l3NanC : Con Tryz.prog := Con.some 163 Tryz.call163 (fun (_u : Unit) => []) (fun (_u : Unit) => True) (fun (_u : Unit) => fun v => ∃ r, v = .float .f64 r ∧ isNan r = true ∧ r < 18446744073709551616) fun _u w _ => l3NanC_c  w
theorem l3InfC_c  (w : World) : Calls Tryz.prog 164 #[] w fun e w' => e = .returned (.float .f64 9218868437227405312) ∧ RowKit.Below w.heap.size w w' := by
  refine (plain_of_vcs ⟨[], []⟩ hmx Tryz.func164 rfl (by kernel_rfl) (args := []) (by simp [Tryz.ntmps164]) w (· = .float .f64 9218868437227405312) 400 ?_).mono fun e w' ⟨v, h1, h2, h3⟩ => ⟨h2 ▸ h1, h3⟩
  simp (maxSteps := 4000000) -dsimp [-List.all_eq_true, -Array.all_eq_true, -Bool.exists_bool, -Bool.forall_bool, and_assoc, List.zipIdx, Tryz.f164]
  intro r hr
  rw [div_one] at hr
  exact hr
def l3InfC : Con Tryz.prog := Con.pure 164 Tryz.call164 (fun (_u : Unit) => []) (fun (_u : Unit) => True) (fun (_u : Unit) => .float .f64 9218868437227405312) fun _u w _ => l3InfC_c  w
theorem l3WordC_c (n : Int) (hpre : 0 ≤ n ∧ n ≤ 3) (w : World) : Calls Tryz.prog 231 #[.int .i64 n] w fun e w' => ∃ v, e = .returned v ∧ (fun v => ∃ r, v = .float .f64 r ∧ wordR n r) v ∧ RowKit.Below w.heap.size w w' := by
  refine plain_of_vcs ⟨[l3NanC, l3InfC], []⟩ hmx Tryz.func231 rfl (by kernel_rfl) (args := [.int .i64 n]) (by simp [Tryz.ntmps231]) w (fun v => ∃ r, v = .float .f64 r ∧ wordR n r) 400 ?_
  simp (maxSteps := 4000000) -dsimp [-List.all_eq_true, -Array.all_eq_true, -Bool.exists_bool, -Bool.forall_bool, and_assoc, List.zipIdx, Tryz.f231, l3NanC, l3InfC]
  refine ⟨?_, fun h0 => ⟨?_, fun h1 => ⟨?_, fun h2 => ?_⟩⟩⟩
  · rintro rfl v x rfl h1 h2
    exact ⟨x, rfl, Or.inl ⟨rfl, h1, h2⟩⟩
  · rintro rfl; exact Or.inr (Or.inl ⟨rfl, rfl⟩)
  · rintro rfl; exact Or.inr (Or.inr (Or.inl ⟨rfl, neg_inf⟩))
  · exact Or.inr (Or.inr (Or.inr ⟨by omega, neg_zero⟩))
def l3WordC : Con Tryz.prog := Con.some 231 Tryz.call231 (fun (n : ((Int))) => [.int .i64 n]) (fun (n : ((Int))) => 0 ≤ n ∧ n ≤ 3) (fun (n : ((Int))) => fun v => ∃ r, v = .float .f64 r ∧ wordR n r) fun n w hp => l3WordC_c n hp w
theorem sRealArgC_c (k n p : Int) (w : World) : Calls Tryz.prog 193 #[.agg #[.int .i64 k, .int .i64 n, .int .i64 p]] w fun e w' => ∃ v, e = .returned v ∧ (fun v => ∃ r, v = .float .f64 r ∧ realArgR k n p r) v ∧ RowKit.Below w.heap.size w w' := by
  refine plain_of_vcs ⟨[sDevOkC, l3WordC], []⟩ hmx Tryz.func193 rfl (by kernel_rfl) (args := [.agg #[.int .i64 k, .int .i64 n, .int .i64 p]]) (by simp [Tryz.ntmps193]) w (fun v => ∃ r, v = .float .f64 r ∧ realArgR k n p r) 400 ?_
  simp (maxSteps := 4000000) -dsimp [-List.all_eq_true, -Array.all_eq_true, -Bool.exists_bool, -Bool.forall_bool, and_assoc, List.zipIdx, Tryz.f193, sDevOkC, l3WordC]
  refine fun b => ⟨fun h => realArg_none (Or.inl h), fun hd => ⟨?_, fun h13 => ⟨fun h12 => realArg_none (Or.inr ⟨h12, h13⟩), ?_⟩⟩⟩
  · rintro rfl
    have hn := word_n hd
    refine ⟨by omega, by omega, ?_⟩
    rintro v x rfl h
    exact ⟨x, rfl, realArg_word hd h⟩
  · rintro rfl
    obtain rfl | rfl | rfl | rfl | rfl | rfl := dec_p hd
    all_goals
      repeat
        refine loop_unroll (σ := ⟨[sDevOkC, l3WordC], []⟩) (n := 400) hmx (by kernel_rfl) ?_
        simp (maxSteps := 4000000) -dsimp [-List.all_eq_true, -Array.all_eq_true, -Bool.exists_bool, -Bool.forall_bool, and_assoc, List.zipIdx, Tryz.f193, sDevOkC, l3WordC, IntKind.wrap, IntKind.signed, IntKind.bits]
      intro r hr
      exact realArg_dec hd (by decide) hr
def sRealArgC : Con Tryz.prog := Con.some 193 Tryz.call193 (fun (i : ((Int) × (Int) × (Int))) => match i with | (k, n, p) => [.agg #[.int .i64 k, .int .i64 n, .int .i64 p]]) (fun (i : ((Int) × (Int) × (Int))) => match i with | (k, n, p) => True) (fun (i : ((Int) × (Int) × (Int))) => match i with | (k, n, p) => fun v => ∃ r, v = .float .f64 r ∧ realArgR k n p r) fun i w _ => sRealArgC_c i.1 i.2.1 i.2.2 w
theorem memRealC_c (m : M) (k n p : Int) (w : World) : Calls Tryz.prog 116 #[.agg (cells m), .agg #[.int .i64 k, .int .i64 n, .int .i64 p]] w fun e w' => e = .returned (.float .f64 (memRealF m k n p)) ∧ RowKit.Below w.heap.size w w' := by
  refine (plain_of_vcs ⟨[placeC, realArgC], []⟩ hmx Tryz.func116 rfl (by kernel_rfl) (args := [.agg (cells m), .agg #[.int .i64 k, .int .i64 n, .int .i64 p]]) (by simp [Tryz.ntmps116]) w (· = .float .f64 (memRealF m k n p)) 400 ?_).mono fun e w' ⟨v, h1, h2, h3⟩ => ⟨h2 ▸ h1, h3⟩
  have hb := (place_bd k n).1
  obtain ⟨l1, l2, l3, l4, l5, l6, l7, l8, l9, l10⟩ := place_lt n
  by_cases hk : k = 10
  · subst hk
    simp (maxSteps := 4000000) -dsimp [-List.all_eq_true, -Array.all_eq_true, -Bool.exists_bool, -Bool.forall_bool, and_assoc, List.zipIdx, Tryz.f116, placeC, realArgC, memRealF, hb, l10, get_R m (place 10 n).toNat (by omega)]
    try omega
  · simp (maxSteps := 4000000) -dsimp [-List.all_eq_true, -Array.all_eq_true, -Bool.exists_bool, -Bool.forall_bool, and_assoc, List.zipIdx, Tryz.f116, placeC, realArgC, memRealF, hk]
def memRealC : Con Tryz.prog := Con.pure 116 Tryz.call116 (fun (i : ((M) × (Int) × (Int) × (Int))) => match i with | (m, k, n, p) => [.agg (cells m), .agg #[.int .i64 k, .int .i64 n, .int .i64 p]]) (fun (i : ((M) × (Int) × (Int) × (Int))) => match i with | (m, k, n, p) => True) (fun (i : ((M) × (Int) × (Int) × (Int))) => match i with | (m, k, n, p) => .float .f64 (memRealF m k n p)) fun i w _ => memRealC_c i.1 i.2.1 i.2.2.1 i.2.2.2 w
theorem sMemRealC_c (m : M) (k n p : Int) (w : World) : Calls Tryz.prog 152 #[.agg (cells m), .agg #[.int .i64 k, .int .i64 n, .int .i64 p]] w fun e w' => ∃ v, e = .returned v ∧ (fun v => ∃ r, v = .float .f64 r ∧ memRealR m k n p r) v ∧ RowKit.Below w.heap.size w w' := by
  refine plain_of_vcs ⟨[l5AtC, sRealArgC], []⟩ hmx Tryz.func152 rfl (by kernel_rfl) (args := [.agg (cells m), .agg #[.int .i64 k, .int .i64 n, .int .i64 p]]) (by simp [Tryz.ntmps152]) w (fun v => ∃ r, v = .float .f64 r ∧ memRealR m k n p r) 400 ?_
  have hb := (place_bd k n).1
  obtain ⟨l1, l2, l3, l4, l5, l6, l7, l8, l9, l10⟩ := place_lt n
  by_cases hk : k = 10
  · subst hk
    simp (maxSteps := 4000000) -dsimp [-List.all_eq_true, -Array.all_eq_true, -Bool.exists_bool, -Bool.forall_bool, and_assoc, List.zipIdx, Tryz.f152, l5AtC, sRealArgC, memRealR, hb, l10, get_R m (place 10 n).toNat (by omega)]
    try omega
  · simp (maxSteps := 4000000) -dsimp [-List.all_eq_true, -Array.all_eq_true, -Bool.exists_bool, -Bool.forall_bool, and_assoc, List.zipIdx, Tryz.f152, l5AtC, sRealArgC, memRealR, hk]
    try (rintro v x rfl h; exact ⟨x, rfl, h⟩)
def sMemRealC : Con Tryz.prog := Con.some 152 Tryz.call152 (fun (i : ((M) × (Int) × (Int) × (Int))) => match i with | (m, k, n, p) => [.agg (cells m), .agg #[.int .i64 k, .int .i64 n, .int .i64 p]]) (fun (i : ((M) × (Int) × (Int) × (Int))) => match i with | (m, k, n, p) => True) (fun (i : ((M) × (Int) × (Int) × (Int))) => match i with | (m, k, n, p) => fun v => ∃ r, v = .float .f64 r ∧ memRealR m k n p r) fun i w _ => sMemRealC_c i.1 i.2.1 i.2.2.1 i.2.2.2 w
end Go.Proofs.YtfhnbdlkiemaeaaGreat
