/-
  Contracts: operands of a contact or coil are copied, counted and compared.
-/
import Derived.Test.YtmlmmaojomghdaaDoorPtu
import Derived.Test.YtmlmmaojomghdaaDoorFactstu
import Derived.Test.YtmlmmaojomghdaaDoorIntu
import Derived.Test.YtmlmmaojomghdaaDoorVtu
set_option linter.unusedVariables false
set_option linter.unusedSimpArgs false
set_option maxRecDepth 100000
set_option maxHeartbeats 4000000
namespace Go.Proofs.YtmlmmaojomghdaaDoor
open Go Go.Sx
attribute [local simp] Sx.vcsE1 Sx.vcsE2 Sx.vcsE3 Sx.vcsE4 Sx.vcsE5 Sx.vcsE6 Sx.vcsE7 Sx.vcsE8 Sx.vcsE9 Sx.vcsE10 Sx.vcsE11 Sx.vcsE12 Sx.vcsE13 Sx.vcsE14 Sx.vcsE15 Sx.vcsE16 Sx.vcsE17 Sx.vcsE18 Sx.vcsE19 Sx.get Sx.look Sx.put Sx.pureFn Sx.findOrd Sx.unF Sx.dstOk Sx.isFloatT Sx.endVC Sx.resFn Sx.packC Sx.newFn Sx.storeFn Sx.buildFn Sx.known Sx.aggT Sx.cellsC Sx.findCon Sx.allV Sx.partsV Sx.partsC Sx.fillL Sx.exitTo Sx.fAr Sx.eqFn Sx.eqFieldsFn Sx.eqElemsFn Sx.partFn Sx.sliceFn Sx.boundFn Sx.AppV Sx.CopyV Sx.MakeSliceV Sx.NewsV Sx.GrowV Sx.TextV Sx.bytesL Sx.notInt Sx.typeAt Sx.argAt Sx.den Go.undef Go.Value.cells Go.Value.oneCell' Sx.Con.pure Sx.Con.some Sx.Con.read Sx.Con.make Sx.Con.ext Sx.Con.rel Sx.Con.extS Sx.Con.draw Sx.Con.step Sx.C.one Sx.Draws.steps

theorem toDevArgC_c (k n p : Int) (w : World) : Calls Tryd.prog 119 #[.agg #[.int .i64 k, .int .i64 n, .int .i64 p]] w fun e w' => e = .returned (.agg #[.int .i64 k, .int .i64 n, .int .i64 p]) ∧ RowKit.Below w.heap.size w w' := by
  refine (plain_of_vcs ⟨[], []⟩ hmx Tryd.func119 rfl (by kernel_rfl) (args := [.agg #[.int .i64 k, .int .i64 n, .int .i64 p]]) (by simp [Tryd.ntmps119]) w (· = .agg #[.int .i64 k, .int .i64 n, .int .i64 p]) 1000 ?_).mono fun e w' ⟨v, h1, h2, h3⟩ => ⟨h2 ▸ h1, h3⟩
  simp (maxSteps := 4000000) -dsimp [-List.all_eq_true, -Array.all_eq_true, -Bool.exists_bool, -Bool.forall_bool, and_assoc, List.zipIdx, Tryd.f119]
def toDevArgC : Con Tryd.prog := Con.pure 119 Tryd.call119 (fun (i : ((Int) × (Int) × (Int))) => match i with | (k, n, p) => [.agg #[.int .i64 k, .int .i64 n, .int .i64 p]]) (fun (i : ((Int) × (Int) × (Int))) => match i with | (k, n, p) => True) (fun (i : ((Int) × (Int) × (Int))) => match i with | (k, n, p) => .agg #[.int .i64 k, .int .i64 n, .int .i64 p]) fun i w _ => toDevArgC_c i.1 i.2.1 i.2.2 w

theorem i_succ {i : Nat} (h : i < 4611686018427387904) : IntKind.i64.wrap ((i : Int) + 1) = ((i + 1 : Nat) : Int) := by
  rw [wrap_i64 (by omega) (by omega)]; omega

theorem toArgsC_c (o : Option Addr) (cap : Nat) (xs : List Dev) (w : World) (hpre : RdD (factF ⟨w, [], w, []⟩) o xs ∧ xs.length ≤ 1048576) : Calls Tryd.prog 93 #[.slice o xs.length cap] w fun e w' => ∃ v, e = .returned v ∧ RowKit.Below w.heap.size w w' ∧ IsArgs (fun a => if w.heap.size ≤ a.block then w'.cell? a else none) v xs := by
  refine make_of_vcs ⟨[toDevArgC], []⟩ hmx Tryd.func93 rfl (by kernel_rfl) (args := [.slice o xs.length cap]) (by simp [Tryd.ntmps93]) w (fun v F => IsArgs F v xs) 400 ?_
  obtain ⟨h, hl⟩ := hpre
  simp (maxSteps := 4000000) -dsimp [-List.all_eq_true, -Array.all_eq_true, -Bool.exists_bool, -Bool.forall_bool, and_assoc, List.zipIdx, Tryd.f93, toDevArgC]
  refine ⟨by omega, by omega, fun b => ?_⟩
  refine loop_inv (σ := ⟨[toDevArgC], []⟩) hmx (by kernel_rfl) (fun m cx tm mem => cx = ⟨w, [], w, []⟩ ∧ ∃ i : Nat, i ≤ xs.length ∧ m = xs.length - i ∧ mem = [⟨b, rowD xs i xs.length, 87⟩] ∧ Sx.look tm 4 = .v (.int .i64 i) ∧ Sx.look tm 3 = .s 0 b 0 xs.length xs.length ∧ Sx.look tm 0 = .v (.slice o xs.length cap))
    xs.length ⟨rfl, 0, by omega, rfl, by rw [rowD_zero]; simp [zeroD], by simp [Sx.look], by simp [Sx.look], by simp [Sx.look]⟩ ?_
  rintro m cx tm mem ⟨rfl, i, hi, rfl, rfl, h4, h3, h0⟩
  refine ⟨200, ?_⟩
  by_cases hlt : i < xs.length
  · obtain ⟨d, hd⟩ : ∃ d, xs[i]? = some d := ⟨xs[i], by simp [hlt]⟩
    have e1 := i_succ (i := i) (by omega)
    have e2 := rowD_set hd hlt
    simp at e2
    have e3 := len_rowD (xs := xs) (i := i) (n := xs.length) (by omega) (by omega)
    have e4 := h.there hlt
    simp (maxSteps := 4000000) -dsimp [-List.all_eq_true, -Array.all_eq_true, -Bool.exists_bool, -Bool.forall_bool, and_assoc, List.zipIdx, Tryd.f93, toDevArgC, h4, h3, h0, hlt, e1, e2, e3, e4, h.ld _ _ hd]
    exact ⟨by omega, 1, _, by omega, i + 1, by omega, rfl, by simp [e2], by omega⟩
  · obtain rfl : i = xs.length := by omega
    simp (maxSteps := 4000000) -dsimp [-List.all_eq_true, -Array.all_eq_true, -Bool.exists_bool, -Bool.forall_bool, and_assoc, List.zipIdx, Tryd.f93, toDevArgC, h4, h3, h0]
    refine ⟨rfl, rfl, fun w' hm => ⟨⟨_, _, rfl, RdO.fin rfl rfl hm (k := 0) rfl ?_ ?_, Nat.le_refl _, by unfold maxLen; omega⟩⟩⟩
    · intro r hr
      simp at hr
      obtain ⟨a, _, rfl⟩ := hr
      rfl
    · rw [rowD_end rfl, List.map_map, den_map_v, List.drop_zero, List.length_map, List.take_of_length_le (by rw [len_encDs]; omega)]
      rfl
def toArgsC_S : Makes Tryd.prog 93 where
  ι := ((Option Addr) × (Nat) × (List Dev))
  A := fun (i : ((Option Addr) × (Nat) × (List Dev))) => match i with | (o, cap, xs) => [.slice o xs.length cap]
  pre := fun (i : ((Option Addr) × (Nat) × (List Dev))) (F : Facts) => match i with | (o, cap, xs) => RdD F o xs ∧ xs.length ≤ 1048576
  post := fun (i : ((Option Addr) × (Nat) × (List Dev))) (v : Value) (F : Facts) => match i with | (o, cap, xs) => IsArgs F v xs
  mono := by
    intro i F G hs h
    first | exact h | exact h.mono hs | exact ⟨h.1.mono hs, h.2⟩ | exact ⟨h.1.mono hs, h.2.1.mono hs, h.2.2⟩ | exact ⟨h.1.mono hs, h.2.1.mono hs⟩
  monoP := fun i v F G hs h => h.mono hs
  enter := Tryd.call93
  h := fun i w hp => toArgsC_c i.1 i.2.1 i.2.2 w (by rw [factF_init]; exact hp)
def toArgsC : Con Tryd.prog := Con.make toArgsC_S
theorem szArgsC_c (o : Option Addr) (n cap : Nat) (left : Int) (hpre : 0 ≤ left ∧ left ≤ 1048576 ∧ n ≤ 9223372036854775807) (w : World) : Calls Tryd.prog 87 #[.slice o n cap, .int .i64 left] w fun e w' => e = .returned (.int .i64 (if left < n then -1 else left - n)) ∧ RowKit.Below w.heap.size w w' := by
  refine (plain_of_vcs ⟨[], []⟩ hmx Tryd.func87 rfl (by kernel_rfl) (args := [.slice o n cap, .int .i64 left]) (by simp [Tryd.ntmps87]) w (· = .int .i64 (if left < n then -1 else left - n)) 400 ?_).mono fun e w' ⟨v, h1, h2, h3⟩ => ⟨h2 ▸ h1, h3⟩
  obtain ⟨h1, h2, h3⟩ := hpre
  have e : IntKind.i64.wrap (left - n) = left - n := wrap_i64 (by omega) (by omega)
  simp (maxSteps := 4000000) -dsimp [-List.all_eq_true, -Array.all_eq_true, -Bool.exists_bool, -Bool.forall_bool, and_assoc, List.zipIdx, Tryd.f87, e]
  exact ⟨fun h => by omega, fun h => by omega⟩
def szArgsC : Con Tryd.prog := Con.pure 87 Tryd.call87 (fun (i : ((Option Addr) × (Nat) × (Nat) × (Int))) => match i with | (o, n, cap, left) => [.slice o n cap, .int .i64 left]) (fun (i : ((Option Addr) × (Nat) × (Nat) × (Int))) => match i with | (o, n, cap, left) => 0 ≤ left ∧ left ≤ 1048576 ∧ n ≤ 9223372036854775807) (fun (i : ((Option Addr) × (Nat) × (Nat) × (Int))) => match i with | (o, n, cap, left) => .int .i64 (if left < n then -1 else left - n)) fun i w hp => szArgsC_c i.1 i.2.1 i.2.2.1 i.2.2.2 hp w
theorem szElemC_c (op : Int) (o : Option Addr) (n cap : Nat) (left : Int) (hpre : 0 ≤ left ∧ left ≤ 1048576 ∧ n ≤ 9223372036854775807) (w : World) : Calls Tryd.prog 52 #[.agg #[.int .i64 op, .slice o n cap], .int .i64 left] w fun e w' => e = .returned (.int .i64 (if left < n then -1 else left - n)) ∧ RowKit.Below w.heap.size w w' := by
  refine (plain_of_vcs ⟨[szArgsC], []⟩ hmx Tryd.func52 rfl (by kernel_rfl) (args := [.agg #[.int .i64 op, .slice o n cap], .int .i64 left]) (by simp [Tryd.ntmps52]) w (· = .int .i64 (if left < n then -1 else left - n)) 400 ?_).mono fun e w' ⟨v, h1, h2, h3⟩ => ⟨h2 ▸ h1, h3⟩
  simp (maxSteps := 4000000) -dsimp [-List.all_eq_true, -Array.all_eq_true, -Bool.exists_bool, -Bool.forall_bool, and_assoc, List.zipIdx, Tryd.f52, szArgsC, hpre]
  intro h h'
  split at h <;> omega
def szElemC : Con Tryd.prog := Con.pure 52 Tryd.call52 (fun (i : ((Int) × (Option Addr) × (Nat) × (Nat) × (Int))) => match i with | (op, o, n, cap, left) => [.agg #[.int .i64 op, .slice o n cap], .int .i64 left]) (fun (i : ((Int) × (Option Addr) × (Nat) × (Nat) × (Int))) => match i with | (op, o, n, cap, left) => 0 ≤ left ∧ left ≤ 1048576 ∧ n ≤ 9223372036854775807) (fun (i : ((Int) × (Option Addr) × (Nat) × (Nat) × (Int))) => match i with | (op, o, n, cap, left) => .int .i64 (if left < n then -1 else left - n)) fun i w hp => szElemC_c i.1 i.2.1 i.2.2.1 i.2.2.2.1 i.2.2.2.2 hp w
theorem toElemC_c (op : Int) (o : Option Addr) (cap : Nat) (xs : List Dev) (w : World) (hpre : RdD (factF ⟨w, [], w, []⟩) o xs ∧ xs.length ≤ 1048576) : Calls Tryd.prog 55 #[.agg #[.int .i64 op, .slice o xs.length cap]] w fun e w' => ∃ v, e = .returned v ∧ RowKit.Below w.heap.size w w' ∧ IsElem (fun a => if w.heap.size ≤ a.block then w'.cell? a else none) v op xs := by
  refine make_of_vcs ⟨[toArgsC], []⟩ hmx Tryd.func55 rfl (by kernel_rfl) (args := [.agg #[.int .i64 op, .slice o xs.length cap]]) (by simp [Tryd.ntmps55]) w (fun v F => IsElem F v op xs) 400 ?_
  obtain ⟨h, hl⟩ := hpre
  simp (maxSteps := 4000000) -dsimp [-List.all_eq_true, -Array.all_eq_true, -Bool.exists_bool, -Bool.forall_bool, and_assoc, List.zipIdx, Tryd.f55, toArgsC]
  intro b b1 b2
  refine ⟨(o, cap, xs), rfl, ⟨h.mono (sub_now _ _), hl⟩, ?_⟩
  rintro cx' v hle hv
  obtain ⟨o', cap', rfl, g1, g2, g3⟩ := hv.ex
  simp (maxSteps := 4000000) -dsimp [-List.all_eq_true, -Array.all_eq_true, -Bool.exists_bool, -Bool.forall_bool, and_assoc, List.zipIdx, Tryd.f55, toArgsC]
  exact ⟨hle.w0, hle.g0, fun w' hm => ⟨⟨o', cap', rfl, g1.mono (sub_end hle.w0 hm), g2, g3⟩⟩⟩
def toElemC_S : Makes Tryd.prog 55 where
  ι := ((Int) × (Option Addr) × (Nat) × (List Dev))
  A := fun (i : ((Int) × (Option Addr) × (Nat) × (List Dev))) => match i with | (op, o, cap, xs) => [.agg #[.int .i64 op, .slice o xs.length cap]]
  pre := fun (i : ((Int) × (Option Addr) × (Nat) × (List Dev))) (F : Facts) => match i with | (op, o, cap, xs) => RdD F o xs ∧ xs.length ≤ 1048576
  post := fun (i : ((Int) × (Option Addr) × (Nat) × (List Dev))) (v : Value) (F : Facts) => match i with | (op, o, cap, xs) => IsElem F v op xs
  mono := by
    intro i F G hs h
    first | exact h | exact h.mono hs | exact ⟨h.1.mono hs, h.2⟩ | exact ⟨h.1.mono hs, h.2.1.mono hs, h.2.2⟩ | exact ⟨h.1.mono hs, h.2.1.mono hs⟩
  monoP := fun i v F G hs h => h.mono hs
  enter := Tryd.call55
  h := fun i w hp => toElemC_c i.1 i.2.1 i.2.2.1 i.2.2.2 w (by rw [factF_init]; exact hp)
def toElemC : Con Tryd.prog := Con.make toElemC_S
theorem eqDevArgC_c (k n p : Int) (w : World) : Calls Tryd.prog 133 #[.agg #[.int .i64 k, .int .i64 n, .int .i64 p], .agg #[.int .i64 k, .int .i64 n, .int .i64 p]] w fun e w' => e = .returned (.bool true) ∧ RowKit.Below w.heap.size w w' := by
  refine (plain_of_vcs ⟨[], []⟩ hmx Tryd.func133 rfl (by kernel_rfl) (args := [.agg #[.int .i64 k, .int .i64 n, .int .i64 p], .agg #[.int .i64 k, .int .i64 n, .int .i64 p]]) (by simp [Tryd.ntmps133]) w (· = .bool true) 400 ?_).mono fun e w' ⟨v, h1, h2, h3⟩ => ⟨h2 ▸ h1, h3⟩
  simp (maxSteps := 4000000) -dsimp [-List.all_eq_true, -Array.all_eq_true, -Bool.exists_bool, -Bool.forall_bool, and_assoc, List.zipIdx, Tryd.f133]
def eqDevArgC : Con Tryd.prog := Con.pure 133 Tryd.call133 (fun (i : ((Int) × (Int) × (Int))) => match i with | (k, n, p) => [.agg #[.int .i64 k, .int .i64 n, .int .i64 p], .agg #[.int .i64 k, .int .i64 n, .int .i64 p]]) (fun (i : ((Int) × (Int) × (Int))) => match i with | (k, n, p) => True) (fun (i : ((Int) × (Int) × (Int))) => match i with | (k, n, p) => .bool true) fun i w _ => eqDevArgC_c i.1 i.2.1 i.2.2 w
theorem eqArgsC_c (o : Option Addr) (cap : Nat) (xs : List Dev) (o2 : Option Addr) (cap2 : Nat) (w : World) (hpre : RdD (factF ⟨w, [], w, []⟩) o xs ∧ RdD (factF ⟨w, [], w, []⟩) o2 xs ∧ xs.length ≤ 1048576) : Calls Tryd.prog 98 #[.slice o xs.length cap, .slice o2 xs.length cap2] w fun e w' => e = .returned (.bool true) ∧ RowKit.Below w.heap.size w w' := by
  refine (plain_of_vcs ⟨[eqDevArgC], []⟩ hmx Tryd.func98 rfl (by kernel_rfl) (args := [.slice o xs.length cap, .slice o2 xs.length cap2]) (by simp [Tryd.ntmps98]) w (· = .bool true) 400 ?_).mono fun e w' ⟨v, h1, h2, h3⟩ => ⟨h2 ▸ h1, h3⟩
  obtain ⟨h, g, hl⟩ := hpre
  simp (maxSteps := 4000000) -dsimp [-List.all_eq_true, -Array.all_eq_true, -Bool.exists_bool, -Bool.forall_bool, and_assoc, List.zipIdx, Tryd.f98, eqDevArgC]
  refine loop_inv (σ := ⟨[eqDevArgC], []⟩) hmx (by kernel_rfl) (fun m cx tm mem => cx = ⟨w, [], w, []⟩ ∧ mem = [] ∧ ∃ i : Nat, i ≤ xs.length ∧ m = xs.length - i ∧ Sx.look tm 5 = .v (.int .i64 i) ∧ Sx.look tm 0 = .v (.slice o xs.length cap) ∧ Sx.look tm 1 = .v (.slice o2 xs.length cap2))
    xs.length ⟨rfl, rfl, 0, by omega, rfl, by simp [Sx.look], by simp [Sx.look], by simp [Sx.look]⟩ ?_
  rintro m cx tm mem ⟨rfl, rfl, i, hi, rfl, h5, h0, h1⟩
  refine ⟨200, ?_⟩
  by_cases hlt : i < xs.length
  · obtain ⟨d, hd⟩ : ∃ d, xs[i]? = some d := ⟨xs[i], by simp [hlt]⟩
    simp (maxSteps := 4000000) -dsimp [-List.all_eq_true, -Array.all_eq_true, -Bool.exists_bool, -Bool.forall_bool, and_assoc, List.zipIdx, Tryd.f98, eqDevArgC, h5, h1, h0, hlt, i_succ (i := i) (by omega), h.there hlt, g.there hlt, h.ld _ _ hd, g.ld _ _ hd]
    exact ⟨_, by omega, i + 1, by omega, rfl, by omega⟩
  · obtain rfl : i = xs.length := by omega
    simp (maxSteps := 4000000) -dsimp [-List.all_eq_true, -Array.all_eq_true, -Bool.exists_bool, -Bool.forall_bool, and_assoc, List.zipIdx, Tryd.f98, eqDevArgC, h5, h1, h0]
def eqArgsC_S : Reads Tryd.prog 98 where
  ι := ((Option Addr) × (Nat) × (List Dev) × (Option Addr) × (Nat))
  A := fun (i : ((Option Addr) × (Nat) × (List Dev) × (Option Addr) × (Nat))) => match i with | (o, cap, xs, o2, cap2) => [.slice o xs.length cap, .slice o2 xs.length cap2]
  pre := fun (i : ((Option Addr) × (Nat) × (List Dev) × (Option Addr) × (Nat))) (F : Facts) => match i with | (o, cap, xs, o2, cap2) => RdD F o xs ∧ RdD F o2 xs ∧ xs.length ≤ 1048576
  res := fun (i : ((Option Addr) × (Nat) × (List Dev) × (Option Addr) × (Nat))) => match i with | (o, cap, xs, o2, cap2) => .bool true
  mono := by
    intro i F G hs h
    first | exact h | exact h.mono hs | exact ⟨h.1.mono hs, h.2⟩ | exact ⟨h.1.mono hs, h.2.1.mono hs, h.2.2⟩ | exact ⟨h.1.mono hs, h.2.1.mono hs⟩
  uniq := by
    rintro ⟨o, cap, xs, o2, cap2⟩ ⟨o', cap', xs', o2', cap2'⟩ F hA h h'
    simp at hA
    (try simp only [Int.natCast_inj] at hA)
    obtain rfl : xs = xs' := RdD.uniq h.1 h'.1 (by simp_all) (by simp_all)
    simp_all
  enter := Tryd.call98
  h := fun i w hp => eqArgsC_c i.1 i.2.1 i.2.2.1 i.2.2.2.1 i.2.2.2.2 w (by rw [factF_init]; exact hp)
def eqArgsC : Con Tryd.prog := Con.read eqArgsC_S
theorem eqArgsC_rw {o : Option Addr} {cap : Nat} {xs : List Dev} {o2 : Option Addr} {cap2 : Nat} {d : Nat} {cx : Cx} {mem : List Blk} {K : C → Prop} (hpre : RdD (nowF cx mem) o xs ∧ RdD (nowF cx mem) o2 xs ∧ xs.length ≤ 1048576) : ReadV d eqArgsC_S cx [.v (.slice o xs.length cap), .v (.slice o2 xs.length cap2)] mem K = K (.v (.bool true)) := eqArgsC_S.eq (o, cap, xs, o2, cap2) rfl hpre
theorem eqElemC_c (op : Int) (o : Option Addr) (cap : Nat) (xs : List Dev) (o2 : Option Addr) (cap2 : Nat) (w : World) (hpre : RdD (factF ⟨w, [], w, []⟩) o xs ∧ RdD (factF ⟨w, [], w, []⟩) o2 xs ∧ xs.length ≤ 1048576) : Calls Tryd.prog 59 #[.agg #[.int .i64 op, .slice o xs.length cap], .agg #[.int .i64 op, .slice o2 xs.length cap2]] w fun e w' => e = .returned (.bool true) ∧ RowKit.Below w.heap.size w w' := by
  refine (plain_of_vcs ⟨[eqArgsC], []⟩ hmx Tryd.func59 rfl (by kernel_rfl) (args := [.agg #[.int .i64 op, .slice o xs.length cap], .agg #[.int .i64 op, .slice o2 xs.length cap2]]) (by simp [Tryd.ntmps59]) w (· = .bool true) 400 ?_).mono fun e w' ⟨v, h1, h2, h3⟩ => ⟨h2 ▸ h1, h3⟩
  obtain ⟨h, g, hl⟩ := hpre
  simp (maxSteps := 4000000) -dsimp [-List.all_eq_true, -Array.all_eq_true, -Bool.exists_bool, -Bool.forall_bool, and_assoc, List.zipIdx, Tryd.f59, eqArgsC]
  intro b b1
  rw [eqArgsC_rw ⟨h.mono (sub_now _ _), g.mono (sub_now _ _), hl⟩]
  simp (maxSteps := 4000000) -dsimp [-List.all_eq_true, -Array.all_eq_true, -Bool.exists_bool, -Bool.forall_bool, and_assoc, List.zipIdx, Tryd.f59, eqArgsC]
def eqElemC_S : Reads Tryd.prog 59 where
  ι := ((Int) × (Option Addr) × (Nat) × (List Dev) × (Option Addr) × (Nat))
  A := fun (i : ((Int) × (Option Addr) × (Nat) × (List Dev) × (Option Addr) × (Nat))) => match i with | (op, o, cap, xs, o2, cap2) => [.agg #[.int .i64 op, .slice o xs.length cap], .agg #[.int .i64 op, .slice o2 xs.length cap2]]
  pre := fun (i : ((Int) × (Option Addr) × (Nat) × (List Dev) × (Option Addr) × (Nat))) (F : Facts) => match i with | (op, o, cap, xs, o2, cap2) => RdD F o xs ∧ RdD F o2 xs ∧ xs.length ≤ 1048576
  res := fun (i : ((Int) × (Option Addr) × (Nat) × (List Dev) × (Option Addr) × (Nat))) => match i with | (op, o, cap, xs, o2, cap2) => .bool true
  mono := by
    intro i F G hs h
    first | exact h | exact h.mono hs | exact ⟨h.1.mono hs, h.2⟩ | exact ⟨h.1.mono hs, h.2.1.mono hs, h.2.2⟩ | exact ⟨h.1.mono hs, h.2.1.mono hs⟩
  uniq := by
    rintro ⟨op, o, cap, xs, o2, cap2⟩ ⟨op', o', cap', xs', o2', cap2'⟩ F hA h h'
    simp at hA
    (try simp only [Int.natCast_inj] at hA)
    obtain rfl : xs = xs' := RdD.uniq h.1 h'.1 (by simp_all) (by simp_all)
    simp_all
  enter := Tryd.call59
  h := fun i w hp => eqElemC_c i.1 i.2.1 i.2.2.1 i.2.2.2.1 i.2.2.2.2.1 i.2.2.2.2.2 w (by rw [factF_init]; exact hp)
def eqElemC : Con Tryd.prog := Con.read eqElemC_S
theorem eqElemC_rw {op : Int} {o : Option Addr} {cap : Nat} {xs : List Dev} {o2 : Option Addr} {cap2 : Nat} {d : Nat} {cx : Cx} {mem : List Blk} {K : C → Prop} (hpre : RdD (nowF cx mem) o xs ∧ RdD (nowF cx mem) o2 xs ∧ xs.length ≤ 1048576) : ReadV d eqElemC_S cx [.v (.agg #[.int .i64 op, .slice o xs.length cap]), .v (.agg #[.int .i64 op, .slice o2 xs.length cap2])] mem K = K (.v (.bool true)) := eqElemC_S.eq (op, o, cap, xs, o2, cap2) rfl hpre
end Go.Proofs.YtmlmmaojomghdaaDoor
