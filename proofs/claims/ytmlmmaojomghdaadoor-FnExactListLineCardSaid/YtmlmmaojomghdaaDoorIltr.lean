/-
  Contracts: lists of instructions are copied, counted and compared.
-/
import Derived.Test.YtmlmmaojomghdaaDoorItr
import Derived.Test.YtmlmmaojomghdaaDoorIntr
set_option linter.unusedVariables false
set_option linter.unusedSimpArgs false
set_option maxRecDepth 100000
set_option maxHeartbeats 4000000
namespace Go.Proofs.YtmlmmaojomghdaaDoor
open Go Go.Sx
attribute [local simp] Sx.vcsE1 Sx.vcsE2 Sx.vcsE3 Sx.vcsE4 Sx.vcsE5 Sx.vcsE6 Sx.vcsE7 Sx.vcsE8 Sx.vcsE9 Sx.vcsE10 Sx.vcsE11 Sx.vcsE12 Sx.vcsE13 Sx.vcsE14 Sx.vcsE15 Sx.vcsE16 Sx.vcsE17 Sx.vcsE18 Sx.vcsE19 Sx.get Sx.look Sx.put Sx.pureFn Sx.findOrd Sx.unF Sx.dstOk Sx.isFloatT Sx.endVC Sx.resFn Sx.packC Sx.newFn Sx.storeFn Sx.buildFn Sx.known Sx.aggT Sx.cellsC Sx.findCon Sx.allV Sx.partsV Sx.partsC Sx.fillL Sx.exitTo Sx.fAr Sx.eqFn Sx.eqFieldsFn Sx.eqElemsFn Sx.partFn Sx.sliceFn Sx.boundFn Sx.AppV Sx.CopyV Sx.MakeSliceV Sx.NewsV Sx.GrowV Sx.TextV Sx.bytesL Sx.notInt Sx.typeAt Sx.argAt Sx.den Go.undef Go.Value.cells Go.Value.oneCell' Sx.Con.pure Sx.Con.some Sx.Con.read Sx.Con.make Sx.Con.ext Sx.Con.rel Sx.Con.extS Sx.Con.draw Sx.Con.step Sx.C.one Sx.Draws.steps

theorem szInstC_c (code op : Int) (o : Option Addr) (n cap : Nat) (left : Int) (hpre : 0 ≤ left ∧ left ≤ 1048576 ∧ n ≤ 9223372036854775807) (w : World) : Calls Tryd.prog 16 #[.agg #[.int .i64 code, .int .i64 op, .slice o n cap], .int .i64 left] w fun e w' => e = .returned (.int .i64 (if left < n then -1 else left - n)) ∧ RowKit.Below w.heap.size w w' := by
  refine (plain_of_vcs ⟨[szElemC], []⟩ hmx Tryd.func16 rfl (by kernel_rfl) (args := [.agg #[.int .i64 code, .int .i64 op, .slice o n cap], .int .i64 left]) (by simp [Tryd.ntmps16]) w (· = .int .i64 (if left < n then -1 else left - n)) 400 ?_).mono fun e w' ⟨v, h1, h2, h3⟩ => ⟨h2 ▸ h1, h3⟩
  simp (maxSteps := 4000000) -dsimp [-List.all_eq_true, -Array.all_eq_true, -Bool.exists_bool, -Bool.forall_bool, and_assoc, List.zipIdx, Tryd.f16, szElemC, hpre]
  intro h h'
  split at h <;> omega
def szInstC : Con Tryd.prog := Con.pure 16 Tryd.call16 (fun (i : ((Int) × (Int) × (Option Addr) × (Nat) × (Nat) × (Int))) => match i with | (code, op, o, n, cap, left) => [.agg #[.int .i64 code, .int .i64 op, .slice o n cap], .int .i64 left]) (fun (i : ((Int) × (Int) × (Option Addr) × (Nat) × (Nat) × (Int))) => match i with | (code, op, o, n, cap, left) => 0 ≤ left ∧ left ≤ 1048576 ∧ n ≤ 9223372036854775807) (fun (i : ((Int) × (Int) × (Option Addr) × (Nat) × (Nat) × (Int))) => match i with | (code, op, o, n, cap, left) => .int .i64 (if left < n then -1 else left - n)) fun i w hp => szInstC_c i.1 i.2.1 i.2.2.1 i.2.2.2.1 i.2.2.2.2.1 i.2.2.2.2.2 hp w
theorem toInstC_c (code op : Int) (o : Option Addr) (cap : Nat) (xs : List Dev) (w : World) (hpre : RdD (factF ⟨w, [], w, []⟩) o xs ∧ xs.length ≤ 1048576) : Calls Tryd.prog 18 #[.agg #[.int .i64 code, .int .i64 op, .slice o xs.length cap]] w fun e w' => ∃ v, e = .returned v ∧ RowKit.Below w.heap.size w w' ∧ IsInst (fun a => if w.heap.size ≤ a.block then w'.cell? a else none) v ⟨code, op, xs⟩ := by
  refine make_of_vcs ⟨[toElemC], []⟩ hmx Tryd.func18 rfl (by kernel_rfl) (args := [.agg #[.int .i64 code, .int .i64 op, .slice o xs.length cap]]) (by simp [Tryd.ntmps18]) w (fun v F => IsInst F v ⟨code, op, xs⟩) 400 ?_
  obtain ⟨h, hl⟩ := hpre
  simp (maxSteps := 4000000) -dsimp [-List.all_eq_true, -Array.all_eq_true, -Bool.exists_bool, -Bool.forall_bool, and_assoc, List.zipIdx, Tryd.f18, toElemC]
  intro b b1 b2
  refine ⟨(op, o, cap, xs), rfl, ⟨h.mono (sub_now _ _), hl⟩, ?_⟩
  rintro cx' v hle hv
  obtain ⟨o', cap', rfl, g1, g2, g3⟩ := hv.ex
  simp (maxSteps := 4000000) -dsimp [-List.all_eq_true, -Array.all_eq_true, -Bool.exists_bool, -Bool.forall_bool, and_assoc, List.zipIdx, Tryd.f18, toElemC]
  exact ⟨hle.w0, hle.g0, fun w' hm => ⟨⟨o', cap', rfl, g1.mono (sub_end hle.w0 hm), g2, g3⟩⟩⟩
def toInstC_S : Makes Tryd.prog 18 where
  ι := ((Int) × (Int) × (Option Addr) × (Nat) × (List Dev))
  A := fun (i : ((Int) × (Int) × (Option Addr) × (Nat) × (List Dev))) => match i with | (code, op, o, cap, xs) => [.agg #[.int .i64 code, .int .i64 op, .slice o xs.length cap]]
  pre := fun (i : ((Int) × (Int) × (Option Addr) × (Nat) × (List Dev))) (F : Facts) => match i with | (code, op, o, cap, xs) => RdD F o xs ∧ xs.length ≤ 1048576
  post := fun (i : ((Int) × (Int) × (Option Addr) × (Nat) × (List Dev))) (v : Value) (F : Facts) => match i with | (code, op, o, cap, xs) => IsInst F v ⟨code, op, xs⟩
  mono := by
    intro i F G hs h
    first | exact h | exact h.mono hs | exact ⟨h.1.mono hs, h.2⟩ | exact ⟨h.1.mono hs, h.2.1.mono hs, h.2.2⟩ | exact ⟨h.1.mono hs, h.2.1.mono hs⟩
  monoP := fun i v F G hs h => h.mono hs
  enter := Tryd.call18
  h := fun i w hp => toInstC_c i.1 i.2.1 i.2.2.1 i.2.2.2.1 i.2.2.2.2 w (by rw [factF_init]; exact hp)
def toInstC : Con Tryd.prog := Con.make toInstC_S
theorem eqInstC_c (code op : Int) (o : Option Addr) (cap : Nat) (xs : List Dev) (o2 : Option Addr) (cap2 : Nat) (w : World) (hpre : RdD (factF ⟨w, [], w, []⟩) o xs ∧ RdD (factF ⟨w, [], w, []⟩) o2 xs ∧ xs.length ≤ 1048576) : Calls Tryd.prog 20 #[.agg #[.int .i64 code, .int .i64 op, .slice o xs.length cap], .agg #[.int .i64 code, .int .i64 op, .slice o2 xs.length cap2]] w fun e w' => e = .returned (.bool true) ∧ RowKit.Below w.heap.size w w' := by
  refine (plain_of_vcs ⟨[eqElemC], []⟩ hmx Tryd.func20 rfl (by kernel_rfl) (args := [.agg #[.int .i64 code, .int .i64 op, .slice o xs.length cap], .agg #[.int .i64 code, .int .i64 op, .slice o2 xs.length cap2]]) (by simp [Tryd.ntmps20]) w (· = .bool true) 400 ?_).mono fun e w' ⟨v, h1, h2, h3⟩ => ⟨h2 ▸ h1, h3⟩
  obtain ⟨h, g, hl⟩ := hpre
  simp (maxSteps := 4000000) -dsimp [-List.all_eq_true, -Array.all_eq_true, -Bool.exists_bool, -Bool.forall_bool, and_assoc, List.zipIdx, Tryd.f20, eqElemC]
  intro b b1
  refine (eqElemC_rw ⟨h.mono (sub_now _ _), g.mono (sub_now _ _), hl⟩).mpr ?_
  simp (maxSteps := 4000000) -dsimp [-List.all_eq_true, -Array.all_eq_true, -Bool.exists_bool, -Bool.forall_bool, and_assoc, List.zipIdx, Tryd.f20, eqElemC]
def eqInstC_S : Reads Tryd.prog 20 where
  ι := ((Int) × (Int) × (Option Addr) × (Nat) × (List Dev) × (Option Addr) × (Nat))
  A := fun (i : ((Int) × (Int) × (Option Addr) × (Nat) × (List Dev) × (Option Addr) × (Nat))) => match i with | (code, op, o, cap, xs, o2, cap2) => [.agg #[.int .i64 code, .int .i64 op, .slice o xs.length cap], .agg #[.int .i64 code, .int .i64 op, .slice o2 xs.length cap2]]
  pre := fun (i : ((Int) × (Int) × (Option Addr) × (Nat) × (List Dev) × (Option Addr) × (Nat))) (F : Facts) => match i with | (code, op, o, cap, xs, o2, cap2) => RdD F o xs ∧ RdD F o2 xs ∧ xs.length ≤ 1048576
  res := fun (i : ((Int) × (Int) × (Option Addr) × (Nat) × (List Dev) × (Option Addr) × (Nat))) => match i with | (code, op, o, cap, xs, o2, cap2) => .bool true
  mono := by
    intro i F G hs h
    first | exact h | exact h.mono hs | exact ⟨h.1.mono hs, h.2⟩ | exact ⟨h.1.mono hs, h.2.1.mono hs, h.2.2⟩ | exact ⟨h.1.mono hs, h.2.1.mono hs⟩
  uniq := by
    rintro ⟨code, op, o, cap, xs, o2, cap2⟩ ⟨code', op', o', cap', xs', o2', cap2'⟩ F hA h h'
    simp at hA
    (try simp only [Int.natCast_inj] at hA)
    obtain rfl : xs = xs' := RdD.uniq h.1 h'.1 (by simp_all) (by simp_all)
    simp_all
  enter := Tryd.call20
  h := fun i w hp => eqInstC_c i.1 i.2.1 i.2.2.1 i.2.2.2.1 i.2.2.2.2.1 i.2.2.2.2.2.1 i.2.2.2.2.2.2 w (by rw [factF_init]; exact hp)
def eqInstC : Con Tryd.prog := Con.read eqInstC_S
theorem eqInstC_rw {code op : Int} {o : Option Addr} {cap : Nat} {xs : List Dev} {o2 : Option Addr} {cap2 : Nat} {d : Nat} {cx : Cx} {mem : List Blk} {K : C → Prop} (hpre : RdD (nowF cx mem) o xs ∧ RdD (nowF cx mem) o2 xs ∧ xs.length ≤ 1048576) : ReadV d eqInstC_S cx [.v (.agg #[.int .i64 code, .int .i64 op, .slice o xs.length cap]), .v (.agg #[.int .i64 code, .int .i64 op, .slice o2 xs.length cap2])] mem K = K (.v (.bool true)) := eqInstC_S.eq (code, op, o, cap, xs, o2, cap2) rfl hpre

end Go.Proofs.YtmlmmaojomghdaaDoor
