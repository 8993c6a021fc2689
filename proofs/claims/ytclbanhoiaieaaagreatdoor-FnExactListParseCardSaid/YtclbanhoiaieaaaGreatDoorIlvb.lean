/-
  Contracts: two lists of instructions are compared.
-/
import Derived.Test.YtclbanhoiaieaaaGreatDoorIvb
import Derived.Test.YtclbanhoiaieaaaGreatDoorInvb
set_option linter.unusedVariables false
set_option linter.unusedSimpArgs false
set_option maxRecDepth 100000
set_option maxHeartbeats 4000000
namespace Go.Proofs.YtclbanhoiaieaaaGreatDoor
open Go Go.Sx
attribute [local simp] Sx.vcsE1 Sx.vcsE2 Sx.vcsE3 Sx.vcsE4 Sx.vcsE5 Sx.vcsE6 Sx.vcsE7 Sx.vcsE8 Sx.vcsE9 Sx.vcsE10 Sx.vcsE11 Sx.vcsE12 Sx.vcsE13 Sx.vcsE14 Sx.vcsE15 Sx.vcsE16 Sx.vcsE17 Sx.vcsE18 Sx.vcsE19 Sx.get Sx.look Sx.put Sx.pureFn Sx.findOrd Sx.unF Sx.dstOk Sx.isFloatT Sx.endVC Sx.resFn Sx.packC Sx.newFn Sx.storeFn Sx.buildFn Sx.known Sx.aggT Sx.cellsC Sx.findCon Sx.allV Sx.partsV Sx.partsC Sx.fillL Sx.exitTo Sx.fAr Sx.eqFn Sx.eqFieldsFn Sx.eqElemsFn Sx.partFn Sx.sliceFn Sx.boundFn Sx.AppV Sx.CopyV Sx.MakeSliceV Sx.NewsV Sx.GrowV Sx.TextV Sx.bytesL Sx.notInt Sx.typeAt Sx.argAt Sx.den Go.undef Go.Value.cells Go.Value.oneCell' Sx.Con.pure Sx.Con.some Sx.Con.read Sx.Con.make Sx.Con.ext Sx.Con.rel Sx.Con.extS Sx.Con.draw Sx.Con.step Sx.C.one Sx.Draws.steps

theorem eqInstC_c (code op : Int) (o : Option Addr) (cap : Nat) (xs : List Dev) (o2 : Option Addr) (cap2 : Nat) (w : World) (hpre : RdD (factF ⟨w, [], w, []⟩) o xs ∧ RdD (factF ⟨w, [], w, []⟩) o2 xs ∧ xs.length ≤ 1048576) : Calls Tryz.prog 85 #[.agg #[.int .i64 code, .int .i64 op, .slice o xs.length cap], .agg #[.int .i64 code, .int .i64 op, .slice o2 xs.length cap2]] w fun e w' => e = .returned (.bool true) ∧ RowKit.Below w.heap.size w w' := by
  refine (plain_of_vcs ⟨[eqElemC], []⟩ hmx Tryz.func85 rfl (by kernel_rfl) (args := [.agg #[.int .i64 code, .int .i64 op, .slice o xs.length cap], .agg #[.int .i64 code, .int .i64 op, .slice o2 xs.length cap2]]) (by simp [Tryz.ntmps85]) w (· = .bool true) 400 ?_).mono fun e w' ⟨v, h1, h2, h3⟩ => ⟨h2 ▸ h1, h3⟩
  obtain ⟨h, g, hl⟩ := hpre
  simp (maxSteps := 4000000) -dsimp [-List.all_eq_true, -Array.all_eq_true, -Bool.exists_bool, -Bool.forall_bool, and_assoc, List.zipIdx, Tryz.f85, eqElemC]
  intro b b1
  refine (eqElemC_rw ⟨h.mono (sub_now _ _), g.mono (sub_now _ _), hl⟩).mpr ?_
  simp (maxSteps := 4000000) -dsimp [-List.all_eq_true, -Array.all_eq_true, -Bool.exists_bool, -Bool.forall_bool, and_assoc, List.zipIdx, Tryz.f85, eqElemC]
def eqInstC_S : Reads Tryz.prog 85 where
  ι := ((Int) × (Int) × (Option Addr) × (Nat) × (List Dev) × (Option Addr) × (Nat))
  A := fun (i : ((Int) × (Int) × (Option Addr) × (Nat) × (List Dev) × (Option Addr) × (Nat))) => match i with | (code, op, o, cap, xs, o2, cap2) => [.agg #[.int .i64 code, .int .i64 op, .slice o xs.length cap], .agg #[.int .i64 code, .int .i64 op, .slice o2 xs.length cap2]]
  pre := fun (i : ((Int) × (Int) × (Option Addr) × (Nat) × (List Dev) × (Option Addr) × (Nat))) (F : Facts) => match i with | (code, op, o, cap, xs, o2, cap2) => RdD F o xs ∧ RdD F o2 xs ∧ xs.length ≤ 1048576
  res := fun (i : ((Int) × (Int) × (Option Addr) × (Nat) × (List Dev) × (Option Addr) × (Nat))) => match i with | (code, op, o, cap, xs, o2, cap2) => .bool true
  mono := by
    intro i F G hs h
    first | exact h | exact h.mono hs | exact ⟨h.1.mono hs, h.2⟩ | exact ⟨h.1.mono hs, h.2.1.mono hs, h.2.2⟩ | exact ⟨h.1.mono hs, h.2.1.mono hs⟩ | exact ⟨h.1.mono hs, h.2.1.mono hs, h.2.2.1.mono hs, h.2.2.2⟩
  uniq := by
    rintro ⟨code, op, o, cap, xs, o2, cap2⟩ ⟨code', op', o', cap', xs', o2', cap2'⟩ F hA h h'
    simp at hA
    (try simp only [Int.natCast_inj] at hA)
    obtain rfl : xs = xs' := RdD.uniq h.1 h'.1 (by simp_all) (by simp_all)
    simp_all
  enter := Tryz.call85
  h := fun i w hp => eqInstC_c i.1 i.2.1 i.2.2.1 i.2.2.2.1 i.2.2.2.2.1 i.2.2.2.2.2.1 i.2.2.2.2.2.2 w (by rw [factF_init]; exact hp)
def eqInstC : Con Tryz.prog := Con.read eqInstC_S
theorem eqInstC_rw {code op : Int} {o : Option Addr} {cap : Nat} {xs : List Dev} {o2 : Option Addr} {cap2 : Nat} {d : Nat} {cx : Cx} {mem : List Blk} {K : C → Prop} (hpre : RdD (nowF cx mem) o xs ∧ RdD (nowF cx mem) o2 xs ∧ xs.length ≤ 1048576) : ReadV d eqInstC_S cx [.v (.agg #[.int .i64 code, .int .i64 op, .slice o xs.length cap]), .v (.agg #[.int .i64 code, .int .i64 op, .slice o2 xs.length cap2])] mem K = K (.v (.bool true)) := eqInstC_S.eq (code, op, o, cap, xs, o2, cap2) rfl hpre

theorem eqInstSC_c (o : Option Addr) (cap : Nat) (xs : List Ins) (o2 : Option Addr) (cap2 : Nat) (w : World) (hpre : RdN (factF ⟨w, [], w, []⟩) o xs ∧ RdN (factF ⟨w, [], w, []⟩) o2 xs ∧ xs.length ≤ 1048576 ∧ (∀ x ∈ xs, x.args.length ≤ 1048576)) : Calls Tryz.prog 26 #[.slice o xs.length cap, .slice o2 xs.length cap2] w fun e w' => e = .returned (.bool true) ∧ RowKit.Below w.heap.size w w' := by
  refine (plain_of_vcs ⟨[eqInstC], []⟩ hmx Tryz.func26 rfl (by kernel_rfl) (args := [.slice o xs.length cap, .slice o2 xs.length cap2]) (by simp [Tryz.ntmps26]) w (· = .bool true) 400 ?_).mono fun e w' ⟨v, h1, h2, h3⟩ => ⟨h2 ▸ h1, h3⟩
  obtain ⟨h, g, hl, hxa⟩ := hpre
  simp (maxSteps := 4000000) -dsimp [-List.all_eq_true, -Array.all_eq_true, -Bool.exists_bool, -Bool.forall_bool, and_assoc, List.zipIdx, Tryz.f26, eqInstC]
  refine loop_inv (σ := ⟨[eqInstC], []⟩) hmx (by kernel_rfl) (fun q cx tm mem => cx = ⟨w, [], w, []⟩ ∧ mem = [] ∧ ∃ i : Nat, i ≤ xs.length ∧ q = xs.length - i ∧ Sx.look tm 5 = .v (.int .i64 i) ∧ Sx.look tm 0 = .v (.slice o xs.length cap) ∧ Sx.look tm 1 = .v (.slice o2 xs.length cap2))
    xs.length ⟨rfl, rfl, 0, by omega, rfl, by simp [Sx.look], by simp [Sx.look], by simp [Sx.look]⟩ ?_
  rintro q cx tm mem ⟨rfl, rfl, i, hi, rfl, h5, h0, h1⟩
  refine ⟨300, ?_⟩
  by_cases hlt : i < xs.length
  · obtain ⟨x, hx⟩ : ∃ x, xs[i]? = some x := ⟨xs[i], by simp [hlt]⟩
    obtain ⟨o', cap', hat⟩ := h.at hx
    obtain ⟨o2', cap2', gat⟩ := g.at hx
    simp (maxSteps := 4000000) -dsimp [-List.all_eq_true, -Array.all_eq_true, -Bool.exists_bool, -Bool.forall_bool, and_assoc, List.zipIdx, Tryz.f26, eqInstC, h5, h0, h1, hlt, h.there hlt, g.there hlt, hat.all, gat.all]
    refine (eqInstC_rw ⟨hat.args.mono (sub_now _ _), gat.args.mono (sub_now _ _), hxa x (List.mem_of_getElem? hx)⟩).mpr ?_
    simp (maxSteps := 4000000) -dsimp [-List.all_eq_true, -Array.all_eq_true, -Bool.exists_bool, -Bool.forall_bool, and_assoc, List.zipIdx, Tryz.f26, eqInstC, h5, h0, h1, i_succ (i := i) (by omega)]
    exact ⟨_, by omega, i + 1, by omega, rfl, by omega⟩
  · obtain rfl : i = xs.length := by omega
    simp (maxSteps := 4000000) -dsimp [-List.all_eq_true, -Array.all_eq_true, -Bool.exists_bool, -Bool.forall_bool, and_assoc, List.zipIdx, Tryz.f26, eqInstC, h5, h0, h1]
def eqInstSC_S : Reads Tryz.prog 26 where
  ι := ((Option Addr) × (Nat) × (List Ins) × (Option Addr) × (Nat))
  A := fun (i : ((Option Addr) × (Nat) × (List Ins) × (Option Addr) × (Nat))) => match i with | (o, cap, xs, o2, cap2) => [.slice o xs.length cap, .slice o2 xs.length cap2]
  pre := fun (i : ((Option Addr) × (Nat) × (List Ins) × (Option Addr) × (Nat))) (F : Facts) => match i with | (o, cap, xs, o2, cap2) => RdN F o xs ∧ RdN F o2 xs ∧ xs.length ≤ 1048576 ∧ (∀ x ∈ xs, x.args.length ≤ 1048576)
  res := fun (i : ((Option Addr) × (Nat) × (List Ins) × (Option Addr) × (Nat))) => match i with | (o, cap, xs, o2, cap2) => .bool true
  mono := by
    intro i F G hs h
    first | exact h | exact h.mono hs | exact ⟨h.1.mono hs, h.2⟩ | exact ⟨h.1.mono hs, h.2.1.mono hs, h.2.2⟩ | exact ⟨h.1.mono hs, h.2.1.mono hs⟩ | exact ⟨h.1.mono hs, h.2.1.mono hs, h.2.2.1.mono hs, h.2.2.2⟩
  uniq := by
    rintro ⟨o, cap, xs, o2, cap2⟩ ⟨o', cap', xs', o2', cap2'⟩ F hA h h'
    simp at hA
    (try simp only [Int.natCast_inj] at hA)
    obtain rfl : xs = xs' := RdN.uniq h.1 h'.1 (by simp_all) (by simp_all)
    simp_all
  enter := Tryz.call26
  h := fun i w hp => eqInstSC_c i.1 i.2.1 i.2.2.1 i.2.2.2.1 i.2.2.2.2 w (by rw [factF_init]; exact hp)

end Go.Proofs.YtclbanhoiaieaaaGreatDoor
