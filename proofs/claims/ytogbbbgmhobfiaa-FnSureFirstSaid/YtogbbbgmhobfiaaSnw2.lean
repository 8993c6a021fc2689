/-
  Contracts: what the reference knows behind an instruction.
-/
import Derived.Test.YtogbbbgmhobfiaaSqw2
import Derived.Test.YtogbbbgmhobfiaaSsw2
import Derived.Test.YtogbbbgmhobfiaaSvw2
set_option linter.unusedVariables false
set_option linter.unusedSimpArgs false
set_option maxRecDepth 100000
set_option maxHeartbeats 4000000
namespace Go.Proofs.Ytogbbbgmhobfiaa
open Go Go.Sx
open List renaming all_eq_true → Y1, zipIdx → Y5
open Bool renaming exists_bool → Y3, forall_bool → Y4
attribute [local simp] Sx.vcsE1 Sx.vcsE2 Sx.vcsE3 Sx.vcsE4 Sx.vcsE5 Sx.vcsE6 Sx.vcsE7 Sx.vcsE8 Sx.vcsE9 Sx.vcsE10 Sx.vcsE11 Sx.vcsE12 Sx.vcsE13 Sx.vcsE14 Sx.vcsE15 Sx.vcsE16 Sx.vcsE17 Sx.vcsE18 Sx.vcsE19 Sx.get Sx.look Sx.put Sx.pureFn Sx.findOrd Sx.unF Sx.dstOk Sx.isFloatT Sx.endVC Sx.resFn Sx.packC Sx.newFn Sx.storeFn Sx.buildFn Sx.known Sx.aggT Sx.cellsC Sx.findCon Sx.allV Sx.partsV Sx.partsC Sx.fillL Sx.exitTo Sx.fAr Sx.eqFn Sx.eqFieldsFn Sx.eqElemsFn Sx.partFn Sx.sliceFn Sx.boundFn Sx.AppV Sx.CopyV Sx.MakeSliceV Sx.NewsV Sx.GrowV Sx.TextV Sx.bytesL Sx.notInt Sx.typeAt Sx.argAt Sx.den Go.undef Go.Value.cells Go.Value.oneCell' Sx.Con.pure Sx.Con.some Sx.Con.read Sx.Con.make Sx.Con.ext Sx.Con.rel Sx.Con.extS Sx.Con.draw Sx.Con.step Sx.C.one Sx.Draws.steps

theorem sWrongC_c (b f : Int) (base coil : Bool) (code op : Int) (o : Option Addr) (cap : Nat) (xs : List Dev) (w : World) (hpre : RdD (factF ⟨w, [], w, []⟩) o xs ∧ xs.length ≤ 1048576 ∧ Fine b f) : Calls Try.prog 12 #[.agg #[.int .i64 b, .int .i64 f, .bool base, .bool coil], .agg #[.int .i64 code, .int .i64 op, .slice o xs.length cap]] w fun e w' => e = .returned (.int .i64 (wrongN ⟨code, op, xs⟩ b f base coil)) ∧ RowKit.Below w.heap.size w w' := by
  refine (plain_of_vcs ⟨[sListOkC, sNeedsC], []⟩ hmx Try.func12 rfl (by kernel_rfl) (args := [.agg #[.int .i64 b, .int .i64 f, .bool base, .bool coil], .agg #[.int .i64 code, .int .i64 op, .slice o xs.length cap]]) (by simp [Try.ntmps12]) w (· = .int .i64 (wrongN ⟨code, op, xs⟩ b f base coil)) 600 ?_).mono fun e w' ⟨v, h1, h2, h3⟩ => ⟨h2 ▸ h1, h3⟩
  obtain ⟨h, hl, hf⟩ := hpre
  obtain ⟨f1, f2, f3, f4⟩ := hf
  have y := fun d mem K => sListOkC_rw (code := code) (op := op) (cap := cap) (d := d) (cx := ⟨w, [], w, []⟩) (mem := mem) (K := K) ⟨h.mono (sub_now _ _), hl⟩
  obtain hc | hc := code_or code
  · cases hi : insOk ⟨code, op, xs⟩
    · have e : wrongN ⟨code, op, xs⟩ b f base coil = 2 := by unfold wrongN; rw [hi]; rfl
      rw [e]
      clear e
      obtain rfl | rfl | rfl | rfl | rfl | rfl | rfl | rfl | rfl | rfl | rfl := hc
      all_goals
        simp (maxSteps := 4000000) -dsimp [-Y1, -Array.all_eq_true, -Y3, -Y4, and_assoc, Y5, Try.f12, sListOkC, sNeedsC, y, hi]
    · have e : wrongN ⟨code, op, xs⟩ b f base coil = if b < needsN code then 3 else if code = 1 ∧ 16 ≤ b then 4 else if 7 ≤ code ∧ 1 < b then 5
          else if base = true ∧ (((code = 3 ∨ code = 6) ∧ b = 1) ∨ (code = 5 ∧ b = 2)) then 6
          else if (code = 7 ∧ 8 ≤ f) ∨ ((code = 8 ∨ code = 9) ∧ f = 0) ∨ (code = 11 ∧ f ≠ 0) then 7
          else if (code = 8 ∨ code = 9 ∨ code = 11) ∧ coil = false then 8 else 0 := by unfold wrongN; rw [hi]; rfl
      rw [e]
      clear e
      obtain rfl | rfl | rfl | rfl | rfl | rfl | rfl | rfl | rfl | rfl | rfl := hc
      all_goals
        cases base <;> cases coil <;> simp (maxSteps := 4000000) -dsimp [-Y1, -Array.all_eq_true, -Y3, -Y4, and_assoc, Y5, Try.f12, sListOkC, sNeedsC, y, hi, needsN]
        all_goals (repeat' first | exact trivial | (refine ⟨?_, ?_⟩) | intro _ | (split <;> omega) | omega | grind)
  · have hi := insOk_out (x := ⟨code, op, xs⟩) hc
    have e : wrongN ⟨code, op, xs⟩ b f base coil = 2 := by unfold wrongN; rw [hi]; rfl
    have n : ¬ code = 5 := by omega
    rw [e]
    by_cases h7 : 7 ≤ code
    · simp (maxSteps := 4000000) -dsimp [-Y1, -Array.all_eq_true, -Y3, -Y4, and_assoc, Y5, Try.f12, sListOkC, sNeedsC, y, hi, n, h7]
    · simp (maxSteps := 4000000) -dsimp [-Y1, -Array.all_eq_true, -Y3, -Y4, and_assoc, Y5, Try.f12, sListOkC, sNeedsC, y, hi, n, h7]
def sWrongC_S : Reads Try.prog 12 where
  ι := ((Int) × (Int) × (Bool) × (Bool) × (Int) × (Int) × (Option Addr) × (Nat) × (List Dev))
  A := fun (i : ((Int) × (Int) × (Bool) × (Bool) × (Int) × (Int) × (Option Addr) × (Nat) × (List Dev))) => match i with | (b, f, base, coil, code, op, o, cap, xs) => [.agg #[.int .i64 b, .int .i64 f, .bool base, .bool coil], .agg #[.int .i64 code, .int .i64 op, .slice o xs.length cap]]
  pre := fun (i : ((Int) × (Int) × (Bool) × (Bool) × (Int) × (Int) × (Option Addr) × (Nat) × (List Dev))) (F : Facts) => match i with | (b, f, base, coil, code, op, o, cap, xs) => RdD F o xs ∧ xs.length ≤ 1048576 ∧ Fine b f
  res := fun (i : ((Int) × (Int) × (Bool) × (Bool) × (Int) × (Int) × (Option Addr) × (Nat) × (List Dev))) => match i with | (b, f, base, coil, code, op, o, cap, xs) => .int .i64 (wrongN ⟨code, op, xs⟩ b f base coil)
  mono := by
    intro i F G hs h
    first | exact h | exact h.mono hs | exact ⟨h.1.mono hs, h.2⟩ | exact ⟨h.1.mono hs, h.2.1.mono hs, h.2.2⟩ | exact ⟨h.1.mono hs, h.2.1.mono hs⟩ | exact ⟨h.1.mono hs, h.2.1.mono hs, h.2.2.1.mono hs, h.2.2.2⟩
  uniq := by
    rintro ⟨b, f, base, coil, code, op, o, cap, xs⟩ ⟨b', f', base', coil', code', op', o', cap', xs'⟩ F hA h h'
    simp at hA
    (try simp only [Int.natCast_inj] at hA)
    obtain rfl : xs = xs' := RdD.uniq h.1 h'.1 (by simp_all) (by simp_all)
    simp_all
  enter := Try.call12
  h := fun i w hp => sWrongC_c i.1 i.2.1 i.2.2.1 i.2.2.2.1 i.2.2.2.2.1 i.2.2.2.2.2.1 i.2.2.2.2.2.2.1 i.2.2.2.2.2.2.2.1 i.2.2.2.2.2.2.2.2 w (by rw [factF_init]; exact hp)
def sWrongC : Con Try.prog := Con.read sWrongC_S
theorem sWrongC_rw {b f : Int} {base coil : Bool} {code op : Int} {o : Option Addr} {cap : Nat} {xs : List Dev} {d : Nat} {cx : Cx} {mem : List Blk} {K : C → Prop} (hpre : RdD (nowF cx mem) o xs ∧ xs.length ≤ 1048576 ∧ Fine b f) : ReadV d sWrongC_S cx [.v (.agg #[.int .i64 b, .int .i64 f, .bool base, .bool coil]), .v (.agg #[.int .i64 code, .int .i64 op, .slice o xs.length cap])] mem K = K (.v (.int .i64 (wrongN ⟨code, op, xs⟩ b f base coil))) := sWrongC_S.eq (b, f, base, coil, code, op, o, cap, xs) rfl hpre

def nxI (z c d : Int) : Int := if c = 11 then 0 else z + d
def nxBase (base : Bool) (c : Int) : Bool := c != 11 && (base || c == 10 || c == 7)
theorem sNextC_c (b f : Int) (base coil : Bool) (c : Int) (hpre : -1048576 ≤ b ∧ b ≤ 1048576 ∧ -1048576 ≤ f ∧ f ≤ 1048576) (w : World) : Calls Try.prog 13 #[.agg #[.int .i64 b, .int .i64 f, .bool base, .bool coil], .int .i64 c] w fun e w' => e = .returned (.agg #[.int .i64 (nxI b c (dB c)), .int .i64 (nxI f c (dF c)), .bool (nxBase base c), .bool (c == 10)]) ∧ RowKit.Below w.heap.size w w' := by
  refine (plain_of_vcs ⟨[], []⟩ hmx Try.func13 rfl (by kernel_rfl) (args := [.agg #[.int .i64 b, .int .i64 f, .bool base, .bool coil], .int .i64 c]) (by simp [Try.ntmps13]) w (· = .agg #[.int .i64 (nxI b c (dB c)), .int .i64 (nxI f c (dF c)), .bool (nxBase base c), .bool (c == 10)]) 400 ?_).mono fun e w' ⟨v, h1, h2, h3⟩ => ⟨h2 ▸ h1, h3⟩
  have w1 : IntKind.i64.wrap (b + 1) = b + 1 := wrap_i64 (by omega) (by omega)
  have w2 : IntKind.i64.wrap (b - 1) = b - 1 := wrap_i64 (by omega) (by omega)
  have w3 : IntKind.i64.wrap (f + 1) = f + 1 := wrap_i64 (by omega) (by omega)
  have w4 : IntKind.i64.wrap (f - 1) = f - 1 := wrap_i64 (by omega) (by omega)
  have w5 : IntKind.i64.wrap (b + -1) = b + -1 := wrap_i64 (by omega) (by omega)
  have w6 : IntKind.i64.wrap (f + -1) = f + -1 := wrap_i64 (by omega) (by omega)
  by_cases h10 : c = 10
  · subst h10
    cases base <;> simp (maxSteps := 4000000) -dsimp [-Y1, -Array.all_eq_true, -Y3, -Y4, and_assoc, Y5, Try.f13, dB, dF, w1, w2, w3, w4, nxBase, nxI]
  obtain h | h | h | h | h | h | h := code_cases c
  all_goals
    cases base <;> simp (maxSteps := 4000000) -dsimp [-Y1, -Array.all_eq_true, -Y3, -Y4, and_assoc, Y5, Try.f13, h, h10, dB, dF, w1, w2, w3, w4, w5, w6, nxBase, nxI, Int.sub_eq_add_neg]
  rw [beq_eq_false_iff_ne.mpr h.2.2.2.2.1, beq_eq_false_iff_ne.mpr h10]
  simp
def sNextC : Con Try.prog := Con.pure 13 Try.call13 (fun (i : ((Int) × (Int) × (Bool) × (Bool) × (Int))) => match i with | (b, f, base, coil, c) => [.agg #[.int .i64 b, .int .i64 f, .bool base, .bool coil], .int .i64 c]) (fun (i : ((Int) × (Int) × (Bool) × (Bool) × (Int))) => match i with | (b, f, base, coil, c) => -1048576 ≤ b ∧ b ≤ 1048576 ∧ -1048576 ≤ f ∧ f ≤ 1048576) (fun (i : ((Int) × (Int) × (Bool) × (Bool) × (Int))) => match i with | (b, f, base, coil, c) => .agg #[.int .i64 (nxI b c (dB c)), .int .i64 (nxI f c (dF c)), .bool (nxBase base c), .bool (c == 10)]) fun i w hp => sNextC_c i.1 i.2.1 i.2.2.1 i.2.2.2.1 i.2.2.2.2 hp w
end Go.Proofs.Ytogbbbgmhobfiaa
