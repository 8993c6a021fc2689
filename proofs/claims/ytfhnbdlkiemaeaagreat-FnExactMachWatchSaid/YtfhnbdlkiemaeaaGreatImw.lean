/-
  Contracts: operands of a contact or coil are copied, counted and compared.
-/
import Derived.Test.YtfhnbdlkiemaeaaGreatPmw
import Derived.Test.YtfhnbdlkiemaeaaGreatFactsmw
import Derived.Test.YtfhnbdlkiemaeaaGreatKmw
set_option linter.unusedVariables false
set_option linter.unusedSimpArgs false
set_option maxRecDepth 100000
set_option maxHeartbeats 4000000
namespace Go.Proofs.YtfhnbdlkiemaeaaGreat
open Go Go.Sx
attribute [local simp] Go.Sx.vcsE1 Go.Sx.vcsE2 Go.Sx.vcsE3 Go.Sx.vcsE4 Go.Sx.vcsE5 Go.Sx.vcsE6 Go.Sx.vcsE7 Go.Sx.vcsE8 Go.Sx.vcsE9 Go.Sx.vcsE10 Go.Sx.vcsE11 Go.Sx.vcsE12 Go.Sx.vcsE13 Go.Sx.vcsE14 Go.Sx.vcsE15 Go.Sx.vcsE16 Go.Sx.vcsE17 Go.Sx.vcsE18 Go.Sx.vcsE19 Go.Sx.get Go.Sx.look Go.Sx.put Go.Sx.pureFn Go.Sx.findOrd Go.Sx.unF Go.Sx.dstOk Go.Sx.isFloatT Go.Sx.endVC Go.Sx.resFn Go.Sx.packC Go.Sx.newFn Go.Sx.storeFn Go.Sx.buildFn Go.Sx.known Go.Sx.aggT Go.Sx.cellsC Go.Sx.findCon Go.Sx.allV Go.Sx.partsV Go.Sx.partsC Go.Sx.fillL Go.Sx.exitTo Go.Sx.fAr Go.Sx.eqFn Go.Sx.eqFieldsFn Go.Sx.eqElemsFn Go.Sx.partFn Go.Sx.sliceFn Go.Sx.boundFn Go.Sx.AppV Go.Sx.CopyV Go.Sx.MakeSliceV Go.Sx.NewsV Go.Sx.GrowV Go.Sx.TextV Go.Sx.bytesL Go.Sx.notInt Go.Sx.typeAt Go.Sx.argAt Go.Sx.den Go.undef Go.Value.cells Go.Value.oneCell' Go.Sx.Con.pure Go.Sx.Con.some Go.Sx.Con.read Go.Sx.Con.make Go.Sx.Con.ext Go.Sx.Con.rel Go.Sx.Con.extS Go.Sx.Con.draw Go.Sx.Con.step Go.Sx.C.one Go.Sx.Draws.steps

theorem toTimerC_c (b : Bool) (n : Int) (w : World) : Calls Tryz.prog 134 #[.agg #[.bool b, .int .u16 n]] w fun e w' => e = .returned (.agg #[.bool b, .int .u16 n]) ∧ RowKit.Below w.heap.size w w' := by
  refine (plain_of_vcs ⟨[], []⟩ hmx Tryz.func134 rfl (by kernel_rfl) (args := [.agg #[.bool b, .int .u16 n]]) (by simp [Tryz.ntmps134]) w (· = .agg #[.bool b, .int .u16 n]) 400 ?_).mono fun e w' ⟨v, h1, h2, h3⟩ => ⟨h2 ▸ h1, h3⟩
  simp (maxSteps := 4000000) -dsimp [-List.all_eq_true, -Array.all_eq_true, -Bool.exists_bool, -Bool.forall_bool, and_assoc, List.zipIdx, Tryz.f134]
def toTimerC : Con Tryz.prog := Con.pure 134 Tryz.call134 (fun (i : ((Bool) × (Int))) => match i with | (b, n) => [.agg #[.bool b, .int .u16 n]]) (fun (i : ((Bool) × (Int))) => match i with | (b, n) => True) (fun (i : ((Bool) × (Int))) => match i with | (b, n) => .agg #[.bool b, .int .u16 n]) fun i w _ => toTimerC_c i.1 i.2 w
theorem toCounterC_c (b c : Bool) (n : Int) (w : World) : Calls Tryz.prog 135 #[.agg #[.bool b, .bool c, .int .u16 n]] w fun e w' => e = .returned (.agg #[.bool b, .bool c, .int .u16 n]) ∧ RowKit.Below w.heap.size w w' := by
  refine (plain_of_vcs ⟨[], []⟩ hmx Tryz.func135 rfl (by kernel_rfl) (args := [.agg #[.bool b, .bool c, .int .u16 n]]) (by simp [Tryz.ntmps135]) w (· = .agg #[.bool b, .bool c, .int .u16 n]) 400 ?_).mono fun e w' ⟨v, h1, h2, h3⟩ => ⟨h2 ▸ h1, h3⟩
  simp (maxSteps := 4000000) -dsimp [-List.all_eq_true, -Array.all_eq_true, -Bool.exists_bool, -Bool.forall_bool, and_assoc, List.zipIdx, Tryz.f135]
def toCounterC : Con Tryz.prog := Con.pure 135 Tryz.call135 (fun (i : ((Bool) × (Bool) × (Int))) => match i with | (b, c, n) => [.agg #[.bool b, .bool c, .int .u16 n]]) (fun (i : ((Bool) × (Bool) × (Int))) => match i with | (b, c, n) => True) (fun (i : ((Bool) × (Bool) × (Int))) => match i with | (b, c, n) => .agg #[.bool b, .bool c, .int .u16 n]) fun i w _ => toCounterC_c i.1 i.2.1 i.2.2 w
theorem toTimersC_c (f : Arr 16 (Bool × Int)) (w : World) : Calls Tryz.prog 63 #[.agg (tL f).toArray] w fun e w' => e = .returned (.agg (tL f).toArray) ∧ RowKit.Below w.heap.size w w' := by
  refine (plain_of_vcs ⟨[toTimerC], []⟩ hmx Tryz.func63 rfl (by kernel_rfl) (args := [.agg (tL f).toArray]) (by simp [Tryz.ntmps63]) w (· = .agg (tL f).toArray) 1000 ?_).mono fun e w' ⟨v, h1, h2, h3⟩ => ⟨h2 ▸ h1, h3⟩
  rw [tL_lit]
  simp (maxSteps := 4000000) -dsimp [-List.all_eq_true, -Array.all_eq_true, -Bool.exists_bool, -Bool.forall_bool, and_assoc, List.zipIdx, Tryz.f63, toTimerC]
  intro _ _ _
  iterate 17
    refine loop_unroll (σ := ⟨[toTimerC], []⟩) (n := 1000) hmx (by kernel_rfl) ?_
    simp (maxSteps := 4000000) -dsimp [-List.all_eq_true, -Array.all_eq_true, -Bool.exists_bool, -Bool.forall_bool, and_assoc, List.zipIdx, Tryz.f63, toTimerC, IntKind.wrap, IntKind.signed, IntKind.bits]
def toTimersC : Con Tryz.prog := Con.pure 63 Tryz.call63 (fun (f : ((Arr 16 (Bool × Int)))) => [.agg (tL f).toArray]) (fun (f : ((Arr 16 (Bool × Int)))) => True) (fun (f : ((Arr 16 (Bool × Int)))) => .agg (tL f).toArray) fun f w _ => toTimersC_c f w
theorem toCountersC_c (f : Arr 16 (Bool × Bool × Int)) (w : World) : Calls Tryz.prog 64 #[.agg (cL f).toArray] w fun e w' => e = .returned (.agg (cL f).toArray) ∧ RowKit.Below w.heap.size w w' := by
  refine (plain_of_vcs ⟨[toCounterC], []⟩ hmx Tryz.func64 rfl (by kernel_rfl) (args := [.agg (cL f).toArray]) (by simp [Tryz.ntmps64]) w (· = .agg (cL f).toArray) 1000 ?_).mono fun e w' ⟨v, h1, h2, h3⟩ => ⟨h2 ▸ h1, h3⟩
  rw [cL_lit]
  simp (maxSteps := 4000000) -dsimp [-List.all_eq_true, -Array.all_eq_true, -Bool.exists_bool, -Bool.forall_bool, and_assoc, List.zipIdx, Tryz.f64, toCounterC]
  intro _ _ _
  iterate 17
    refine loop_unroll (σ := ⟨[toCounterC], []⟩) (n := 1000) hmx (by kernel_rfl) ?_
    simp (maxSteps := 4000000) -dsimp [-List.all_eq_true, -Array.all_eq_true, -Bool.exists_bool, -Bool.forall_bool, and_assoc, List.zipIdx, Tryz.f64, toCounterC, IntKind.wrap, IntKind.signed, IntKind.bits]
def toCountersC : Con Tryz.prog := Con.pure 64 Tryz.call64 (fun (f : ((Arr 16 (Bool × Bool × Int)))) => [.agg (cL f).toArray]) (fun (f : ((Arr 16 (Bool × Bool × Int)))) => True) (fun (f : ((Arr 16 (Bool × Bool × Int)))) => .agg (cL f).toArray) fun f w _ => toCountersC_c f w
theorem toIntsC_c (f : Arr 32 Int) (w : World) : Calls Tryz.prog 65 #[.agg (dL f).toArray] w fun e w' => e = .returned (.agg (dL f).toArray) ∧ RowKit.Below w.heap.size w w' := by
  refine (plain_of_vcs ⟨[], []⟩ hmx Tryz.func65 rfl (by kernel_rfl) (args := [.agg (dL f).toArray]) (by simp [Tryz.ntmps65]) w (· = .agg (dL f).toArray) 1000 ?_).mono fun e w' ⟨v, h1, h2, h3⟩ => ⟨h2 ▸ h1, h3⟩
  rw [dL_lit]
  simp (maxSteps := 4000000) -dsimp [-List.all_eq_true, -Array.all_eq_true, -Bool.exists_bool, -Bool.forall_bool, and_assoc, List.zipIdx, Tryz.f65]
  intro _ _ _
  iterate 33
    refine loop_unroll (σ := ⟨[], []⟩) (n := 1000) hmx (by kernel_rfl) ?_
    simp (maxSteps := 4000000) -dsimp [-List.all_eq_true, -Array.all_eq_true, -Bool.exists_bool, -Bool.forall_bool, and_assoc, List.zipIdx, Tryz.f65, IntKind.wrap, IntKind.signed, IntKind.bits]
def toIntsC : Con Tryz.prog := Con.pure 65 Tryz.call65 (fun (f : ((Arr 32 Int))) => [.agg (dL f).toArray]) (fun (f : ((Arr 32 Int))) => True) (fun (f : ((Arr 32 Int))) => .agg (dL f).toArray) fun f w _ => toIntsC_c f w
theorem toRealsC_c (f : Arr 16 Nat) (w : World) : Calls Tryz.prog 66 #[.agg (rL f).toArray] w fun e w' => e = .returned (.agg (rL f).toArray) ∧ RowKit.Below w.heap.size w w' := by
  refine (plain_of_vcs ⟨[], []⟩ hmx Tryz.func66 rfl (by kernel_rfl) (args := [.agg (rL f).toArray]) (by simp [Tryz.ntmps66]) w (· = .agg (rL f).toArray) 1000 ?_).mono fun e w' ⟨v, h1, h2, h3⟩ => ⟨h2 ▸ h1, h3⟩
  rw [rL_lit]
  simp (maxSteps := 4000000) -dsimp [-List.all_eq_true, -Array.all_eq_true, -Bool.exists_bool, -Bool.forall_bool, and_assoc, List.zipIdx, Tryz.f66]
  intro _ _ _
  iterate 17
    refine loop_unroll (σ := ⟨[], []⟩) (n := 1000) hmx (by kernel_rfl) ?_
    simp (maxSteps := 4000000) -dsimp [-List.all_eq_true, -Array.all_eq_true, -Bool.exists_bool, -Bool.forall_bool, and_assoc, List.zipIdx, Tryz.f66, IntKind.wrap, IntKind.signed, IntKind.bits]
def toRealsC : Con Tryz.prog := Con.pure 66 Tryz.call66 (fun (f : ((Arr 16 Nat))) => [.agg (rL f).toArray]) (fun (f : ((Arr 16 Nat))) => True) (fun (f : ((Arr 16 Nat))) => .agg (rL f).toArray) fun f w _ => toRealsC_c f w
theorem toMemC_c (m : M) (w : World) : Calls Tryz.prog 23 #[.agg (cells m)] w fun e w' => e = .returned (.agg (cells m)) ∧ RowKit.Below w.heap.size w w' := by
  refine (plain_of_vcs ⟨[toTimersC, toCountersC, toIntsC, toRealsC], []⟩ hmx Tryz.func23 rfl (by kernel_rfl) (args := [.agg (cells m)]) (by simp [Tryz.ntmps23]) w (· = .agg (cells m)) 1000 ?_).mono fun e w' ⟨v, h1, h2, h3⟩ => ⟨h2 ▸ h1, h3⟩
  simp (maxSteps := 4000000) -dsimp [-List.all_eq_true, -Array.all_eq_true, -Bool.exists_bool, -Bool.forall_bool, and_assoc, List.zipIdx, Tryz.f23, toTimersC, toCountersC, toIntsC, toRealsC]
def toMemC : Con Tryz.prog := Con.pure 23 Tryz.call23 (fun (m : ((M))) => [.agg (cells m)]) (fun (m : ((M))) => True) (fun (m : ((M))) => .agg (cells m)) fun m w _ => toMemC_c m w
theorem toDevArgC_c (k n p : Int) (w : World) : Calls Tryz.prog 229 #[.agg #[.int .i64 k, .int .i64 n, .int .i64 p]] w fun e w' => e = .returned (.agg #[.int .i64 k, .int .i64 n, .int .i64 p]) ∧ RowKit.Below w.heap.size w w' := by
  refine (plain_of_vcs ⟨[], []⟩ hmx Tryz.func229 rfl (by kernel_rfl) (args := [.agg #[.int .i64 k, .int .i64 n, .int .i64 p]]) (by simp [Tryz.ntmps229]) w (· = .agg #[.int .i64 k, .int .i64 n, .int .i64 p]) 1000 ?_).mono fun e w' ⟨v, h1, h2, h3⟩ => ⟨h2 ▸ h1, h3⟩
  simp (maxSteps := 4000000) -dsimp [-List.all_eq_true, -Array.all_eq_true, -Bool.exists_bool, -Bool.forall_bool, and_assoc, List.zipIdx, Tryz.f229]
def toDevArgC : Con Tryz.prog := Con.pure 229 Tryz.call229 (fun (i : ((Int) × (Int) × (Int))) => match i with | (k, n, p) => [.agg #[.int .i64 k, .int .i64 n, .int .i64 p]]) (fun (i : ((Int) × (Int) × (Int))) => match i with | (k, n, p) => True) (fun (i : ((Int) × (Int) × (Int))) => match i with | (k, n, p) => .agg #[.int .i64 k, .int .i64 n, .int .i64 p]) fun i w _ => toDevArgC_c i.1 i.2.1 i.2.2 w
end Go.Proofs.YtfhnbdlkiemaeaaGreat
namespace Go.Proofs.YtfhnbdlkiemaeaaGreat
open Go Go.Sx
attribute [local simp] Go.Sx.vcsE1 Go.Sx.vcsE2 Go.Sx.vcsE3 Go.Sx.vcsE4 Go.Sx.vcsE5 Go.Sx.vcsE6 Go.Sx.vcsE7 Go.Sx.vcsE8 Go.Sx.vcsE9 Go.Sx.vcsE10 Go.Sx.vcsE11 Go.Sx.vcsE12 Go.Sx.vcsE13 Go.Sx.vcsE14 Go.Sx.vcsE15 Go.Sx.vcsE16 Go.Sx.vcsE17 Go.Sx.vcsE18 Go.Sx.vcsE19 Go.Sx.get Go.Sx.look Go.Sx.put Go.Sx.pureFn Go.Sx.findOrd Go.Sx.unF Go.Sx.dstOk Go.Sx.isFloatT Go.Sx.endVC Go.Sx.resFn Go.Sx.packC Go.Sx.newFn Go.Sx.storeFn Go.Sx.buildFn Go.Sx.known Go.Sx.aggT Go.Sx.cellsC Go.Sx.findCon Go.Sx.allV Go.Sx.partsV Go.Sx.partsC Go.Sx.fillL Go.Sx.exitTo Go.Sx.fAr Go.Sx.eqFn Go.Sx.eqFieldsFn Go.Sx.eqElemsFn Go.Sx.partFn Go.Sx.sliceFn Go.Sx.boundFn Go.Sx.AppV Go.Sx.CopyV Go.Sx.MakeSliceV Go.Sx.NewsV Go.Sx.GrowV Go.Sx.TextV Go.Sx.bytesL Go.Sx.notInt Go.Sx.typeAt Go.Sx.argAt Go.Sx.den Go.undef Go.Value.cells Go.Value.oneCell' Go.Sx.Con.pure Go.Sx.Con.some Go.Sx.Con.read Go.Sx.Con.make Go.Sx.Con.ext Go.Sx.Con.rel Go.Sx.Con.extS Go.Sx.Con.draw Go.Sx.Con.step Go.Sx.C.one Go.Sx.Draws.steps

theorem i_succ {i : Nat} (h : i < 4611686018427387904) : IntKind.i64.wrap ((i : Int) + 1) = ((i + 1 : Nat) : Int) := by
  rw [wrap_i64 (by omega) (by omega)]; omega

theorem toArgsC_c (o : Option Addr) (cap : Nat) (xs : List Dev) (w : World) (hpre : RdD (factF ⟨w, [], w, []⟩) o xs ∧ xs.length ≤ 1048576) : Calls Tryz.prog 182 #[.slice o xs.length cap] w fun e w' => ∃ v, e = .returned v ∧ RowKit.Below w.heap.size w w' ∧ IsArgs (fun a => if w.heap.size ≤ a.block then w'.cell? a else none) v xs := by
  refine make_of_vcs ⟨[toDevArgC], []⟩ hmx Tryz.func182 rfl (by kernel_rfl) (args := [.slice o xs.length cap]) (by simp [Tryz.ntmps182]) w (fun v F => IsArgs F v xs) 400 ?_
  obtain ⟨h, hl⟩ := hpre
  simp (maxSteps := 4000000) -dsimp [-List.all_eq_true, -Array.all_eq_true, -Bool.exists_bool, -Bool.forall_bool, and_assoc, List.zipIdx, Tryz.f182, toDevArgC]
  refine ⟨by omega, by omega, fun b => ?_⟩
  refine loop_inv (σ := ⟨[toDevArgC], []⟩) hmx (by kernel_rfl) (fun m cx tm mem => cx = ⟨w, [], w, []⟩ ∧ ∃ i : Nat, i ≤ xs.length ∧ m = xs.length - i ∧ mem = [⟨b, rowD xs i xs.length, 161⟩] ∧ Sx.look tm 4 = .v (.int .i64 i) ∧ Sx.look tm 3 = .s 0 b 0 xs.length xs.length ∧ Sx.look tm 0 = .v (.slice o xs.length cap))
    xs.length ⟨rfl, 0, by omega, rfl, by rw [rowD_zero]; simp [zeroD], by simp [Sx.look], by simp [Sx.look], by simp [Sx.look]⟩ ?_
  rintro m cx tm mem ⟨rfl, i, hi, rfl, rfl, h4, h3, h0⟩
  refine ⟨200, ?_⟩
  by_cases hlt : i < xs.length
  · obtain ⟨d, hd⟩ : ∃ d, xs[i]? = some d := ⟨xs[i], by simp [hlt]⟩
    have e1 := i_succ (i := i) (by omega)
    have e2 := rowD_set hd hlt
    simp at e2
    have e3 := len_rowD (xs := xs) (i := i) (n := xs.length) (by omega) (by omega)
    have e4 := h.there hlt
    simp (maxSteps := 4000000) -dsimp [-List.all_eq_true, -Array.all_eq_true, -Bool.exists_bool, -Bool.forall_bool, and_assoc, List.zipIdx, Tryz.f182, toDevArgC, h4, h3, h0, hlt, e1, e2, e3, e4, h.ld _ _ hd]
    exact ⟨by omega, 1, _, by omega, i + 1, by omega, rfl, by simp [e2], by omega⟩
  · obtain rfl : i = xs.length := by omega
    simp (maxSteps := 4000000) -dsimp [-List.all_eq_true, -Array.all_eq_true, -Bool.exists_bool, -Bool.forall_bool, and_assoc, List.zipIdx, Tryz.f182, toDevArgC, h4, h3, h0]
    refine ⟨rfl, rfl, fun w' hm => ⟨⟨_, _, rfl, RdO.fin rfl rfl hm (k := 0) rfl ?_ ?_, Nat.le_refl _, by unfold maxLen; omega⟩⟩⟩
    · intro r hr
      simp at hr
      obtain ⟨a, _, rfl⟩ := hr
      rfl
    · rw [rowD_end rfl, List.map_map, den_map_v, List.drop_zero, List.length_map, List.take_of_length_le (by rw [len_encDs]; omega)]
      rfl
def toArgsC_S : Makes Tryz.prog 182 where
  ι := ((Option Addr) × (Nat) × (List Dev))
  A := fun (i : ((Option Addr) × (Nat) × (List Dev))) => match i with | (o, cap, xs) => [.slice o xs.length cap]
  pre := fun (i : ((Option Addr) × (Nat) × (List Dev))) (F : Facts) => match i with | (o, cap, xs) => RdD F o xs ∧ xs.length ≤ 1048576
  post := fun (i : ((Option Addr) × (Nat) × (List Dev))) (v : Value) (F : Facts) => match i with | (o, cap, xs) => IsArgs F v xs
  mono := by
    intro i F G hs h
    first | exact h | exact h.mono hs | exact ⟨h.1.mono hs, h.2⟩ | exact ⟨h.1.mono hs, h.2.1.mono hs, h.2.2⟩ | exact ⟨h.1.mono hs, h.2.1.mono hs⟩
  monoP := fun i v F G hs h => h.mono hs
  enter := Tryz.call182
  h := fun i w hp => toArgsC_c i.1 i.2.1 i.2.2 w (by rw [factF_init]; exact hp)
def toArgsC : Con Tryz.prog := Con.make toArgsC_S
theorem szArgsC_c (o : Option Addr) (n cap : Nat) (left : Int) (hpre : 0 ≤ left ∧ left ≤ 1048576 ∧ n ≤ 9223372036854775807) (w : World) : Calls Tryz.prog 181 #[.slice o n cap, .int .i64 left] w fun e w' => e = .returned (.int .i64 (if left < n then -1 else left - n)) ∧ RowKit.Below w.heap.size w w' := by
  refine (plain_of_vcs ⟨[], []⟩ hmx Tryz.func181 rfl (by kernel_rfl) (args := [.slice o n cap, .int .i64 left]) (by simp [Tryz.ntmps181]) w (· = .int .i64 (if left < n then -1 else left - n)) 400 ?_).mono fun e w' ⟨v, h1, h2, h3⟩ => ⟨h2 ▸ h1, h3⟩
  obtain ⟨h1, h2, h3⟩ := hpre
  have e : IntKind.i64.wrap (left - n) = left - n := wrap_i64 (by omega) (by omega)
  simp (maxSteps := 4000000) -dsimp [-List.all_eq_true, -Array.all_eq_true, -Bool.exists_bool, -Bool.forall_bool, and_assoc, List.zipIdx, Tryz.f181, e]
  exact ⟨fun h => by omega, fun h => by omega⟩
def szArgsC : Con Tryz.prog := Con.pure 181 Tryz.call181 (fun (i : ((Option Addr) × (Nat) × (Nat) × (Int))) => match i with | (o, n, cap, left) => [.slice o n cap, .int .i64 left]) (fun (i : ((Option Addr) × (Nat) × (Nat) × (Int))) => match i with | (o, n, cap, left) => 0 ≤ left ∧ left ≤ 1048576 ∧ n ≤ 9223372036854775807) (fun (i : ((Option Addr) × (Nat) × (Nat) × (Int))) => match i with | (o, n, cap, left) => .int .i64 (if left < n then -1 else left - n)) fun i w hp => szArgsC_c i.1 i.2.1 i.2.2.1 i.2.2.2 hp w
theorem szElemC_c (op : Int) (o : Option Addr) (n cap : Nat) (left : Int) (hpre : 0 ≤ left ∧ left ≤ 1048576 ∧ n ≤ 9223372036854775807) (w : World) : Calls Tryz.prog 132 #[.agg #[.int .i64 op, .slice o n cap], .int .i64 left] w fun e w' => e = .returned (.int .i64 (if left < n then -1 else left - n)) ∧ RowKit.Below w.heap.size w w' := by
  refine (plain_of_vcs ⟨[szArgsC], []⟩ hmx Tryz.func132 rfl (by kernel_rfl) (args := [.agg #[.int .i64 op, .slice o n cap], .int .i64 left]) (by simp [Tryz.ntmps132]) w (· = .int .i64 (if left < n then -1 else left - n)) 400 ?_).mono fun e w' ⟨v, h1, h2, h3⟩ => ⟨h2 ▸ h1, h3⟩
  simp (maxSteps := 4000000) -dsimp [-List.all_eq_true, -Array.all_eq_true, -Bool.exists_bool, -Bool.forall_bool, and_assoc, List.zipIdx, Tryz.f132, szArgsC, hpre]
  intro h h'
  split at h <;> omega
def szElemC : Con Tryz.prog := Con.pure 132 Tryz.call132 (fun (i : ((Int) × (Option Addr) × (Nat) × (Nat) × (Int))) => match i with | (op, o, n, cap, left) => [.agg #[.int .i64 op, .slice o n cap], .int .i64 left]) (fun (i : ((Int) × (Option Addr) × (Nat) × (Nat) × (Int))) => match i with | (op, o, n, cap, left) => 0 ≤ left ∧ left ≤ 1048576 ∧ n ≤ 9223372036854775807) (fun (i : ((Int) × (Option Addr) × (Nat) × (Nat) × (Int))) => match i with | (op, o, n, cap, left) => .int .i64 (if left < n then -1 else left - n)) fun i w hp => szElemC_c i.1 i.2.1 i.2.2.1 i.2.2.2.1 i.2.2.2.2 hp w
theorem toElemC_c (op : Int) (o : Option Addr) (cap : Nat) (xs : List Dev) (w : World) (hpre : RdD (factF ⟨w, [], w, []⟩) o xs ∧ xs.length ≤ 1048576) : Calls Tryz.prog 133 #[.agg #[.int .i64 op, .slice o xs.length cap]] w fun e w' => ∃ v, e = .returned v ∧ RowKit.Below w.heap.size w w' ∧ IsElem (fun a => if w.heap.size ≤ a.block then w'.cell? a else none) v op xs := by
  refine make_of_vcs ⟨[toArgsC], []⟩ hmx Tryz.func133 rfl (by kernel_rfl) (args := [.agg #[.int .i64 op, .slice o xs.length cap]]) (by simp [Tryz.ntmps133]) w (fun v F => IsElem F v op xs) 400 ?_
  obtain ⟨h, hl⟩ := hpre
  simp (maxSteps := 4000000) -dsimp [-List.all_eq_true, -Array.all_eq_true, -Bool.exists_bool, -Bool.forall_bool, and_assoc, List.zipIdx, Tryz.f133, toArgsC]
  intro b b1 b2
  refine ⟨(o, cap, xs), rfl, ⟨h.mono (sub_now _ _), hl⟩, ?_⟩
  rintro cx' v hle hv
  obtain ⟨o', cap', rfl, g1, g2, g3⟩ := hv.ex
  simp (maxSteps := 4000000) -dsimp [-List.all_eq_true, -Array.all_eq_true, -Bool.exists_bool, -Bool.forall_bool, and_assoc, List.zipIdx, Tryz.f133, toArgsC]
  exact ⟨hle.w0, hle.g0, fun w' hm => ⟨⟨o', cap', rfl, g1.mono (sub_end hle.w0 hm), g2, g3⟩⟩⟩
def toElemC_S : Makes Tryz.prog 133 where
  ι := ((Int) × (Option Addr) × (Nat) × (List Dev))
  A := fun (i : ((Int) × (Option Addr) × (Nat) × (List Dev))) => match i with | (op, o, cap, xs) => [.agg #[.int .i64 op, .slice o xs.length cap]]
  pre := fun (i : ((Int) × (Option Addr) × (Nat) × (List Dev))) (F : Facts) => match i with | (op, o, cap, xs) => RdD F o xs ∧ xs.length ≤ 1048576
  post := fun (i : ((Int) × (Option Addr) × (Nat) × (List Dev))) (v : Value) (F : Facts) => match i with | (op, o, cap, xs) => IsElem F v op xs
  mono := by
    intro i F G hs h
    first | exact h | exact h.mono hs | exact ⟨h.1.mono hs, h.2⟩ | exact ⟨h.1.mono hs, h.2.1.mono hs, h.2.2⟩ | exact ⟨h.1.mono hs, h.2.1.mono hs⟩
  monoP := fun i v F G hs h => h.mono hs
  enter := Tryz.call133
  h := fun i w hp => toElemC_c i.1 i.2.1 i.2.2.1 i.2.2.2 w (by rw [factF_init]; exact hp)
def toElemC : Con Tryz.prog := Con.make toElemC_S
theorem eqDevArgC_c (k n p : Int) (w : World) : Calls Tryz.prog 230 #[.agg #[.int .i64 k, .int .i64 n, .int .i64 p], .agg #[.int .i64 k, .int .i64 n, .int .i64 p]] w fun e w' => e = .returned (.bool true) ∧ RowKit.Below w.heap.size w w' := by
  refine (plain_of_vcs ⟨[], []⟩ hmx Tryz.func230 rfl (by kernel_rfl) (args := [.agg #[.int .i64 k, .int .i64 n, .int .i64 p], .agg #[.int .i64 k, .int .i64 n, .int .i64 p]]) (by simp [Tryz.ntmps230]) w (· = .bool true) 400 ?_).mono fun e w' ⟨v, h1, h2, h3⟩ => ⟨h2 ▸ h1, h3⟩
  simp (maxSteps := 4000000) -dsimp [-List.all_eq_true, -Array.all_eq_true, -Bool.exists_bool, -Bool.forall_bool, and_assoc, List.zipIdx, Tryz.f230]
def eqDevArgC : Con Tryz.prog := Con.pure 230 Tryz.call230 (fun (i : ((Int) × (Int) × (Int))) => match i with | (k, n, p) => [.agg #[.int .i64 k, .int .i64 n, .int .i64 p], .agg #[.int .i64 k, .int .i64 n, .int .i64 p]]) (fun (i : ((Int) × (Int) × (Int))) => match i with | (k, n, p) => True) (fun (i : ((Int) × (Int) × (Int))) => match i with | (k, n, p) => .bool true) fun i w _ => eqDevArgC_c i.1 i.2.1 i.2.2 w
theorem eqArgsC_c (o : Option Addr) (cap : Nat) (xs : List Dev) (o2 : Option Addr) (cap2 : Nat) (w : World) (hpre : RdD (factF ⟨w, [], w, []⟩) o xs ∧ RdD (factF ⟨w, [], w, []⟩) o2 xs ∧ xs.length ≤ 1048576) : Calls Tryz.prog 183 #[.slice o xs.length cap, .slice o2 xs.length cap2] w fun e w' => e = .returned (.bool true) ∧ RowKit.Below w.heap.size w w' := by
  refine (plain_of_vcs ⟨[eqDevArgC], []⟩ hmx Tryz.func183 rfl (by kernel_rfl) (args := [.slice o xs.length cap, .slice o2 xs.length cap2]) (by simp [Tryz.ntmps183]) w (· = .bool true) 400 ?_).mono fun e w' ⟨v, h1, h2, h3⟩ => ⟨h2 ▸ h1, h3⟩
  obtain ⟨h, g, hl⟩ := hpre
  simp (maxSteps := 4000000) -dsimp [-List.all_eq_true, -Array.all_eq_true, -Bool.exists_bool, -Bool.forall_bool, and_assoc, List.zipIdx, Tryz.f183, eqDevArgC]
  refine loop_inv (σ := ⟨[eqDevArgC], []⟩) hmx (by kernel_rfl) (fun m cx tm mem => cx = ⟨w, [], w, []⟩ ∧ mem = [] ∧ ∃ i : Nat, i ≤ xs.length ∧ m = xs.length - i ∧ Sx.look tm 5 = .v (.int .i64 i) ∧ Sx.look tm 0 = .v (.slice o xs.length cap) ∧ Sx.look tm 1 = .v (.slice o2 xs.length cap2))
    xs.length ⟨rfl, rfl, 0, by omega, rfl, by simp [Sx.look], by simp [Sx.look], by simp [Sx.look]⟩ ?_
  rintro m cx tm mem ⟨rfl, rfl, i, hi, rfl, h5, h0, h1⟩
  refine ⟨200, ?_⟩
  by_cases hlt : i < xs.length
  · obtain ⟨d, hd⟩ : ∃ d, xs[i]? = some d := ⟨xs[i], by simp [hlt]⟩
    simp (maxSteps := 4000000) -dsimp [-List.all_eq_true, -Array.all_eq_true, -Bool.exists_bool, -Bool.forall_bool, and_assoc, List.zipIdx, Tryz.f183, eqDevArgC, h5, h1, h0, hlt, i_succ (i := i) (by omega), h.there hlt, g.there hlt, h.ld _ _ hd, g.ld _ _ hd]
    exact ⟨_, by omega, i + 1, by omega, rfl, by omega⟩
  · obtain rfl : i = xs.length := by omega
    simp (maxSteps := 4000000) -dsimp [-List.all_eq_true, -Array.all_eq_true, -Bool.exists_bool, -Bool.forall_bool, and_assoc, List.zipIdx, Tryz.f183, eqDevArgC, h5, h1, h0]
def eqArgsC_S : Reads Tryz.prog 183 where
  ι := ((Option Addr) × (Nat) × (List Dev) × (Option Addr) × (Nat))
  A := fun (i : ((Option Addr) × (Nat) × (List Dev) × (Option Addr) × (Nat))) => match i with | (o, cap, xs, o2, cap2) => [.slice o xs.length cap, .slice o2 xs.length cap2]
  pre := fun (i : ((Option Addr) × (Nat) × (List Dev) × (Option Addr) × (Nat))) (F : Facts) => match i with | (o, cap, xs, o2, cap2) => RdD F o xs ∧ RdD F o2 xs ∧ xs.length ≤ 1048576
  res := fun (i : ((Option Addr) × (Nat) × (List Dev) × (Option Addr) × (Nat))) => match i with | (o, cap, xs, o2, cap2) => .bool true
  mono := by
    intro i F G hs h
    first | exact h | exact h.mono hs | exact ⟨h.1.mono hs, h.2⟩ | exact ⟨h.1.mono hs, h.2.1.mono hs, h.2.2⟩ | exact ⟨h.1.mono hs, h.2.1.mono hs⟩
  uniq := by
    rintro ⟨o, cap, xs, o2, cap2⟩ ⟨o', cap', xs', o2', cap2'⟩ F hA h h'
    simp at hA
    (try simp only [Int.natCast_inj] at hA)
    obtain rfl : xs = xs' := RdD.uniq h.1 h'.1 (by simp_all) (by simp_all)
    simp_all
  enter := Tryz.call183
  h := fun i w hp => eqArgsC_c i.1 i.2.1 i.2.2.1 i.2.2.2.1 i.2.2.2.2 w (by rw [factF_init]; exact hp)
def eqArgsC : Con Tryz.prog := Con.read eqArgsC_S
theorem eqArgsC_rw {o : Option Addr} {cap : Nat} {xs : List Dev} {o2 : Option Addr} {cap2 : Nat} {d : Nat} {cx : Cx} {mem : List Blk} {K : C → Prop} (hpre : RdD (nowF cx mem) o xs ∧ RdD (nowF cx mem) o2 xs ∧ xs.length ≤ 1048576) : ReadV d eqArgsC_S cx [.v (.slice o xs.length cap), .v (.slice o2 xs.length cap2)] mem K = K (.v (.bool true)) := eqArgsC_S.eq (o, cap, xs, o2, cap2) rfl hpre
theorem eqElemC_c (op : Int) (o : Option Addr) (cap : Nat) (xs : List Dev) (o2 : Option Addr) (cap2 : Nat) (w : World) (hpre : RdD (factF ⟨w, [], w, []⟩) o xs ∧ RdD (factF ⟨w, [], w, []⟩) o2 xs ∧ xs.length ≤ 1048576) : Calls Tryz.prog 139 #[.agg #[.int .i64 op, .slice o xs.length cap], .agg #[.int .i64 op, .slice o2 xs.length cap2]] w fun e w' => e = .returned (.bool true) ∧ RowKit.Below w.heap.size w w' := by
  refine (plain_of_vcs ⟨[eqArgsC], []⟩ hmx Tryz.func139 rfl (by kernel_rfl) (args := [.agg #[.int .i64 op, .slice o xs.length cap], .agg #[.int .i64 op, .slice o2 xs.length cap2]]) (by simp [Tryz.ntmps139]) w (· = .bool true) 400 ?_).mono fun e w' ⟨v, h1, h2, h3⟩ => ⟨h2 ▸ h1, h3⟩
  obtain ⟨h, g, hl⟩ := hpre
  simp (maxSteps := 4000000) -dsimp [-List.all_eq_true, -Array.all_eq_true, -Bool.exists_bool, -Bool.forall_bool, and_assoc, List.zipIdx, Tryz.f139, eqArgsC]
  intro b b1
  rw [eqArgsC_rw ⟨h.mono (sub_now _ _), g.mono (sub_now _ _), hl⟩]
  simp (maxSteps := 4000000) -dsimp [-List.all_eq_true, -Array.all_eq_true, -Bool.exists_bool, -Bool.forall_bool, and_assoc, List.zipIdx, Tryz.f139, eqArgsC]
def eqElemC_S : Reads Tryz.prog 139 where
  ι := ((Int) × (Option Addr) × (Nat) × (List Dev) × (Option Addr) × (Nat))
  A := fun (i : ((Int) × (Option Addr) × (Nat) × (List Dev) × (Option Addr) × (Nat))) => match i with | (op, o, cap, xs, o2, cap2) => [.agg #[.int .i64 op, .slice o xs.length cap], .agg #[.int .i64 op, .slice o2 xs.length cap2]]
  pre := fun (i : ((Int) × (Option Addr) × (Nat) × (List Dev) × (Option Addr) × (Nat))) (F : Facts) => match i with | (op, o, cap, xs, o2, cap2) => RdD F o xs ∧ RdD F o2 xs ∧ xs.length ≤ 1048576
  res := fun (i : ((Int) × (Option Addr) × (Nat) × (List Dev) × (Option Addr) × (Nat))) => match i with | (op, o, cap, xs, o2, cap2) => .bool true
  mono := by
    intro i F G hs h
    first | exact h | exact h.mono hs | exact ⟨h.1.mono hs, h.2⟩ | exact ⟨h.1.mono hs, h.2.1.mono hs, h.2.2⟩ | exact ⟨h.1.mono hs, h.2.1.mono hs⟩
  uniq := by
    rintro ⟨op, o, cap, xs, o2, cap2⟩ ⟨op', o', cap', xs', o2', cap2'⟩ F hA h h'
    simp at hA
    (try simp only [Int.natCast_inj] at hA)
    obtain rfl : xs = xs' := RdD.uniq h.1 h'.1 (by simp_all) (by simp_all)
    simp_all
  enter := Tryz.call139
  h := fun i w hp => eqElemC_c i.1 i.2.1 i.2.2.1 i.2.2.2.1 i.2.2.2.2.1 i.2.2.2.2.2 w (by rw [factF_init]; exact hp)
def eqElemC : Con Tryz.prog := Con.read eqElemC_S
theorem eqElemC_rw {op : Int} {o : Option Addr} {cap : Nat} {xs : List Dev} {o2 : Option Addr} {cap2 : Nat} {d : Nat} {cx : Cx} {mem : List Blk} {K : C → Prop} (hpre : RdD (nowF cx mem) o xs ∧ RdD (nowF cx mem) o2 xs ∧ xs.length ≤ 1048576) : ReadV d eqElemC_S cx [.v (.agg #[.int .i64 op, .slice o xs.length cap]), .v (.agg #[.int .i64 op, .slice o2 xs.length cap2])] mem K = K (.v (.bool true)) := eqElemC_S.eq (op, o, cap, xs, o2, cap2) rfl hpre
end Go.Proofs.YtfhnbdlkiemaeaaGreat
