/-
  Contracts: operands of a contact or coil are copied, counted and compared.
-/
import Derived.Test.YtclbanhoiaieaaaGreatDoorPvb
import Derived.Test.YtclbanhoiaieaaaGreatDoorFactsvb
import Derived.Test.YtclbanhoiaieaaaGreatDoorInvb
import Derived.Test.YtclbanhoiaieaaaGreatDoorVvb
set_option linter.unusedVariables false
set_option linter.unusedSimpArgs false
set_option maxRecDepth 100000
set_option maxHeartbeats 4000000
namespace Go.Proofs.YtclbanhoiaieaaaGreatDoor
open Go Go.Sx

end Go.Proofs.YtclbanhoiaieaaaGreatDoor
namespace Go.Proofs.YtclbanhoiaieaaaGreatDoor
open Go Go.Sx
attribute [local simp] Sx.vcsE1 Sx.vcsE2 Sx.vcsE3 Sx.vcsE4 Sx.vcsE5 Sx.vcsE6 Sx.vcsE7 Sx.vcsE8 Sx.vcsE9 Sx.vcsE10 Sx.vcsE11 Sx.vcsE12 Sx.vcsE13 Sx.vcsE14 Sx.vcsE15 Sx.vcsE16 Sx.vcsE17 Sx.vcsE18 Sx.vcsE19 Sx.get Sx.look Sx.put Sx.pureFn Sx.findOrd Sx.unF Sx.dstOk Sx.isFloatT Sx.endVC Sx.resFn Sx.packC Sx.newFn Sx.storeFn Sx.buildFn Sx.known Sx.aggT Sx.cellsC Sx.findCon Sx.allV Sx.partsV Sx.partsC Sx.fillL Sx.exitTo Sx.fAr Sx.eqFn Sx.eqFieldsFn Sx.eqElemsFn Sx.partFn Sx.sliceFn Sx.boundFn Sx.AppV Sx.CopyV Sx.MakeSliceV Sx.NewsV Sx.GrowV Sx.TextV Sx.bytesL Sx.notInt Sx.typeAt Sx.argAt Sx.den Go.undef Go.Value.cells Go.Value.oneCell' Sx.Con.pure Sx.Con.some Sx.Con.read Sx.Con.make Sx.Con.ext Sx.Con.rel Sx.Con.extS Sx.Con.draw Sx.Con.step Sx.C.one Sx.Draws.steps

theorem i_succ {i : Nat} (h : i < 4611686018427387904) : IntKind.i64.wrap ((i : Int) + 1) = ((i + 1 : Nat) : Int) := by
  rw [wrap_i64 (by omega) (by omega)]; omega

theorem eqDevArgC_c (k n p : Int) (w : World) : Calls Tryz.prog 182 #[.agg #[.int .i64 k, .int .i64 n, .int .i64 p], .agg #[.int .i64 k, .int .i64 n, .int .i64 p]] w fun e w' => e = .returned (.bool true) ∧ RowKit.Below w.heap.size w w' := by
  refine (plain_of_vcs ⟨[], []⟩ hmx Tryz.func182 rfl (by kernel_rfl) (args := [.agg #[.int .i64 k, .int .i64 n, .int .i64 p], .agg #[.int .i64 k, .int .i64 n, .int .i64 p]]) (by simp [Tryz.ntmps182]) w (· = .bool true) 400 ?_).mono fun e w' ⟨v, h1, h2, h3⟩ => ⟨h2 ▸ h1, h3⟩
  simp (maxSteps := 4000000) -dsimp [-List.all_eq_true, -Array.all_eq_true, -Bool.exists_bool, -Bool.forall_bool, and_assoc, List.zipIdx, Tryz.f182]
def eqDevArgC : Con Tryz.prog := Con.pure 182 Tryz.call182 (fun (i : ((Int) × (Int) × (Int))) => match i with | (k, n, p) => [.agg #[.int .i64 k, .int .i64 n, .int .i64 p], .agg #[.int .i64 k, .int .i64 n, .int .i64 p]]) (fun (i : ((Int) × (Int) × (Int))) => match i with | (k, n, p) => True) (fun (i : ((Int) × (Int) × (Int))) => match i with | (k, n, p) => .bool true) fun i w _ => eqDevArgC_c i.1 i.2.1 i.2.2 w
theorem eqArgsC_c (o : Option Addr) (cap : Nat) (xs : List Dev) (o2 : Option Addr) (cap2 : Nat) (w : World) (hpre : RdD (factF ⟨w, [], w, []⟩) o xs ∧ RdD (factF ⟨w, [], w, []⟩) o2 xs ∧ xs.length ≤ 1048576) : Calls Tryz.prog 117 #[.slice o xs.length cap, .slice o2 xs.length cap2] w fun e w' => e = .returned (.bool true) ∧ RowKit.Below w.heap.size w w' := by
  refine (plain_of_vcs ⟨[eqDevArgC], []⟩ hmx Tryz.func117 rfl (by kernel_rfl) (args := [.slice o xs.length cap, .slice o2 xs.length cap2]) (by simp [Tryz.ntmps117]) w (· = .bool true) 400 ?_).mono fun e w' ⟨v, h1, h2, h3⟩ => ⟨h2 ▸ h1, h3⟩
  obtain ⟨h, g, hl⟩ := hpre
  simp (maxSteps := 4000000) -dsimp [-List.all_eq_true, -Array.all_eq_true, -Bool.exists_bool, -Bool.forall_bool, and_assoc, List.zipIdx, Tryz.f117, eqDevArgC]
  refine loop_inv (σ := ⟨[eqDevArgC], []⟩) hmx (by kernel_rfl) (fun m cx tm mem => cx = ⟨w, [], w, []⟩ ∧ mem = [] ∧ ∃ i : Nat, i ≤ xs.length ∧ m = xs.length - i ∧ Sx.look tm 5 = .v (.int .i64 i) ∧ Sx.look tm 0 = .v (.slice o xs.length cap) ∧ Sx.look tm 1 = .v (.slice o2 xs.length cap2))
    xs.length ⟨rfl, rfl, 0, by omega, rfl, by simp [Sx.look], by simp [Sx.look], by simp [Sx.look]⟩ ?_
  rintro m cx tm mem ⟨rfl, rfl, i, hi, rfl, h5, h0, h1⟩
  refine ⟨200, ?_⟩
  by_cases hlt : i < xs.length
  · obtain ⟨d, hd⟩ : ∃ d, xs[i]? = some d := ⟨xs[i], by simp [hlt]⟩
    simp (maxSteps := 4000000) -dsimp [-List.all_eq_true, -Array.all_eq_true, -Bool.exists_bool, -Bool.forall_bool, and_assoc, List.zipIdx, Tryz.f117, eqDevArgC, h5, h1, h0, hlt, i_succ (i := i) (by omega), h.there hlt, g.there hlt, h.ld _ _ hd, g.ld _ _ hd]
    exact ⟨_, by omega, i + 1, by omega, rfl, by omega⟩
  · obtain rfl : i = xs.length := by omega
    simp (maxSteps := 4000000) -dsimp [-List.all_eq_true, -Array.all_eq_true, -Bool.exists_bool, -Bool.forall_bool, and_assoc, List.zipIdx, Tryz.f117, eqDevArgC, h5, h1, h0]
def eqArgsC_S : Reads Tryz.prog 117 where
  ι := ((Option Addr) × (Nat) × (List Dev) × (Option Addr) × (Nat))
  A := fun (i : ((Option Addr) × (Nat) × (List Dev) × (Option Addr) × (Nat))) => match i with | (o, cap, xs, o2, cap2) => [.slice o xs.length cap, .slice o2 xs.length cap2]
  pre := fun (i : ((Option Addr) × (Nat) × (List Dev) × (Option Addr) × (Nat))) (F : Facts) => match i with | (o, cap, xs, o2, cap2) => RdD F o xs ∧ RdD F o2 xs ∧ xs.length ≤ 1048576
  res := fun (i : ((Option Addr) × (Nat) × (List Dev) × (Option Addr) × (Nat))) => match i with | (o, cap, xs, o2, cap2) => .bool true
  mono := by
    intro i F G hs h
    first | exact h | exact h.mono hs | exact ⟨h.1.mono hs, h.2⟩ | exact ⟨h.1.mono hs, h.2.1.mono hs, h.2.2⟩ | exact ⟨h.1.mono hs, h.2.1.mono hs⟩ | exact ⟨h.1.mono hs, h.2.1.mono hs, h.2.2.1.mono hs, h.2.2.2⟩
  uniq := by
    rintro ⟨o, cap, xs, o2, cap2⟩ ⟨o', cap', xs', o2', cap2'⟩ F hA h h'
    simp at hA
    (try simp only [Int.natCast_inj] at hA)
    obtain rfl : xs = xs' := RdD.uniq h.1 h'.1 (by simp_all) (by simp_all)
    simp_all
  enter := Tryz.call117
  h := fun i w hp => eqArgsC_c i.1 i.2.1 i.2.2.1 i.2.2.2.1 i.2.2.2.2 w (by rw [factF_init]; exact hp)
def eqArgsC : Con Tryz.prog := Con.read eqArgsC_S
theorem eqArgsC_rw {o : Option Addr} {cap : Nat} {xs : List Dev} {o2 : Option Addr} {cap2 : Nat} {d : Nat} {cx : Cx} {mem : List Blk} {K : C → Prop} (hpre : RdD (nowF cx mem) o xs ∧ RdD (nowF cx mem) o2 xs ∧ xs.length ≤ 1048576) : ReadV d eqArgsC_S cx [.v (.slice o xs.length cap), .v (.slice o2 xs.length cap2)] mem K = K (.v (.bool true)) := eqArgsC_S.eq (o, cap, xs, o2, cap2) rfl hpre
theorem eqElemC_c (op : Int) (o : Option Addr) (cap : Nat) (xs : List Dev) (o2 : Option Addr) (cap2 : Nat) (w : World) (hpre : RdD (factF ⟨w, [], w, []⟩) o xs ∧ RdD (factF ⟨w, [], w, []⟩) o2 xs ∧ xs.length ≤ 1048576) : Calls Tryz.prog 45 #[.agg #[.int .i64 op, .slice o xs.length cap], .agg #[.int .i64 op, .slice o2 xs.length cap2]] w fun e w' => e = .returned (.bool true) ∧ RowKit.Below w.heap.size w w' := by
  refine (plain_of_vcs ⟨[eqArgsC], []⟩ hmx Tryz.func45 rfl (by kernel_rfl) (args := [.agg #[.int .i64 op, .slice o xs.length cap], .agg #[.int .i64 op, .slice o2 xs.length cap2]]) (by simp [Tryz.ntmps45]) w (· = .bool true) 400 ?_).mono fun e w' ⟨v, h1, h2, h3⟩ => ⟨h2 ▸ h1, h3⟩
  obtain ⟨h, g, hl⟩ := hpre
  simp (maxSteps := 4000000) -dsimp [-List.all_eq_true, -Array.all_eq_true, -Bool.exists_bool, -Bool.forall_bool, and_assoc, List.zipIdx, Tryz.f45, eqArgsC]
  intro b b1
  rw [eqArgsC_rw ⟨h.mono (sub_now _ _), g.mono (sub_now _ _), hl⟩]
  simp (maxSteps := 4000000) -dsimp [-List.all_eq_true, -Array.all_eq_true, -Bool.exists_bool, -Bool.forall_bool, and_assoc, List.zipIdx, Tryz.f45, eqArgsC]
def eqElemC_S : Reads Tryz.prog 45 where
  ι := ((Int) × (Option Addr) × (Nat) × (List Dev) × (Option Addr) × (Nat))
  A := fun (i : ((Int) × (Option Addr) × (Nat) × (List Dev) × (Option Addr) × (Nat))) => match i with | (op, o, cap, xs, o2, cap2) => [.agg #[.int .i64 op, .slice o xs.length cap], .agg #[.int .i64 op, .slice o2 xs.length cap2]]
  pre := fun (i : ((Int) × (Option Addr) × (Nat) × (List Dev) × (Option Addr) × (Nat))) (F : Facts) => match i with | (op, o, cap, xs, o2, cap2) => RdD F o xs ∧ RdD F o2 xs ∧ xs.length ≤ 1048576
  res := fun (i : ((Int) × (Option Addr) × (Nat) × (List Dev) × (Option Addr) × (Nat))) => match i with | (op, o, cap, xs, o2, cap2) => .bool true
  mono := by
    intro i F G hs h
    first | exact h | exact h.mono hs | exact ⟨h.1.mono hs, h.2⟩ | exact ⟨h.1.mono hs, h.2.1.mono hs, h.2.2⟩ | exact ⟨h.1.mono hs, h.2.1.mono hs⟩ | exact ⟨h.1.mono hs, h.2.1.mono hs, h.2.2.1.mono hs, h.2.2.2⟩
  uniq := by
    rintro ⟨op, o, cap, xs, o2, cap2⟩ ⟨op', o', cap', xs', o2', cap2'⟩ F hA h h'
    simp at hA
    (try simp only [Int.natCast_inj] at hA)
    obtain rfl : xs = xs' := RdD.uniq h.1 h'.1 (by simp_all) (by simp_all)
    simp_all
  enter := Tryz.call45
  h := fun i w hp => eqElemC_c i.1 i.2.1 i.2.2.1 i.2.2.2.1 i.2.2.2.2.1 i.2.2.2.2.2 w (by rw [factF_init]; exact hp)
def eqElemC : Con Tryz.prog := Con.read eqElemC_S
theorem eqElemC_rw {op : Int} {o : Option Addr} {cap : Nat} {xs : List Dev} {o2 : Option Addr} {cap2 : Nat} {d : Nat} {cx : Cx} {mem : List Blk} {K : C → Prop} (hpre : RdD (nowF cx mem) o xs ∧ RdD (nowF cx mem) o2 xs ∧ xs.length ≤ 1048576) : ReadV d eqElemC_S cx [.v (.agg #[.int .i64 op, .slice o xs.length cap]), .v (.agg #[.int .i64 op, .slice o2 xs.length cap2])] mem K = K (.v (.bool true)) := eqElemC_S.eq (op, o, cap, xs, o2, cap2) rfl hpre
end Go.Proofs.YtclbanhoiaieaaaGreatDoor
