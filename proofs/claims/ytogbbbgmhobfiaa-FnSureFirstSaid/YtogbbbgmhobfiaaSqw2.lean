/-
  Contracts: what is wrong with an instruction, by the program and by the reference.
-/
import Derived.Test.YtogbbbgmhobfiaaEvw2
import Derived.Test.YtogbbbgmhobfiaaEmw2
import Derived.Test.YtogbbbgmhobfiaaIw2
import Derived.Test.YtogbbbgmhobfiaaInw2
import Derived.Test.YtogbbbgmhobfiaaSvw2
import Derived.Test.YtogbbbgmhobfiaaSsw2
set_option linter.unusedVariables false
set_option linter.unusedSimpArgs false
set_option maxRecDepth 100000
set_option maxHeartbeats 4000000
namespace Go.Proofs.Ytogbbbgmhobfiaa
open Go Go.Sx
open List renaming all_eq_true → Y1, zipIdx → Y5
open Bool renaming exists_bool → Y3, forall_bool → Y4
attribute [local simp] Sx.vcsE1 Sx.vcsE2 Sx.vcsE3 Sx.vcsE4 Sx.vcsE5 Sx.vcsE6 Sx.vcsE7 Sx.vcsE8 Sx.vcsE9 Sx.vcsE10 Sx.vcsE11 Sx.vcsE12 Sx.vcsE13 Sx.vcsE14 Sx.vcsE15 Sx.vcsE16 Sx.vcsE17 Sx.vcsE18 Sx.vcsE19 Sx.get Sx.look Sx.put Sx.pureFn Sx.findOrd Sx.unF Sx.dstOk Sx.isFloatT Sx.endVC Sx.resFn Sx.packC Sx.newFn Sx.storeFn Sx.buildFn Sx.known Sx.aggT Sx.cellsC Sx.findCon Sx.allV Sx.partsV Sx.partsC Sx.fillL Sx.exitTo Sx.fAr Sx.eqFn Sx.eqFieldsFn Sx.eqElemsFn Sx.partFn Sx.sliceFn Sx.boundFn Sx.AppV Sx.CopyV Sx.MakeSliceV Sx.NewsV Sx.GrowV Sx.TextV Sx.bytesL Sx.notInt Sx.typeAt Sx.argAt Sx.den Go.undef Go.Value.cells Go.Value.oneCell' Sx.Con.pure Sx.Con.some Sx.Con.read Sx.Con.make Sx.Con.ext Sx.Con.rel Sx.Con.extS Sx.Con.draw Sx.Con.step Sx.C.one Sx.Draws.steps

theorem sListOkC_c (code op : Int) (o : Option Addr) (cap : Nat) (xs : List Dev) (w : World) (hpre : RdD (factF ⟨w, [], w, []⟩) o xs ∧ xs.length ≤ 1048576) : Calls Try.prog 15 #[.agg #[.int .i64 code, .int .i64 op, .slice o xs.length cap]] w fun e w' => e = .returned (.bool (insOk ⟨code, op, xs⟩)) ∧ RowKit.Below w.heap.size w w' := by
  refine (plain_of_vcs ⟨[sConC, sCoilC], []⟩ hmx Try.func15 rfl (by kernel_rfl) (args := [.agg #[.int .i64 code, .int .i64 op, .slice o xs.length cap]]) (by simp [Try.ntmps15]) w (· = .bool (insOk ⟨code, op, xs⟩)) 400 ?_).mono fun e w' ⟨v, h1, h2, h3⟩ => ⟨h2 ▸ h1, h3⟩
  obtain ⟨h, hl⟩ := hpre
  have y1 := fun d mem K => sConC_rw (op := op) (cap := cap) (d := d) (cx := ⟨w, [], w, []⟩) (mem := mem) (K := K) ⟨h.mono (sub_now _ _), hl⟩
  have y2 := fun d mem K => sCoilC_rw (op := op) (cap := cap) (d := d) (cx := ⟨w, [], w, []⟩) (mem := mem) (K := K) ⟨h.mono (sub_now _ _), hl⟩
  unfold insOk
  by_cases h1 : code < 1
  · have e : ¬ (1 ≤ code ∧ code ≤ 3) ∧ ¬ code = 10 ∧ ¬ 1 ≤ code := by omega
    simp (maxSteps := 4000000) -dsimp [-Y1, -Array.all_eq_true, -Y3, -Y4, and_assoc, Y5, Try.f15, sConC, sCoilC, h1, e]
  by_cases h2 : 11 < code
  · have e : ¬ (1 ≤ code ∧ code ≤ 3) ∧ ¬ code = 10 ∧ ¬ code ≤ 11 := by omega
    simp (maxSteps := 4000000) -dsimp [-Y1, -Array.all_eq_true, -Y3, -Y4, and_assoc, Y5, Try.f15, sConC, sCoilC, h1, h2, e]
  by_cases h3 : code ≤ 3
  · have e : 1 ≤ code ∧ code ≤ 3 := by omega
    simp (maxSteps := 4000000) -dsimp [-Y1, -Array.all_eq_true, -Y3, -Y4, and_assoc, Y5, Try.f15, sConC, sCoilC, h1, h2, h3, e, y1]
  by_cases h4 : code = 10
  · subst h4
    simp (maxSteps := 4000000) -dsimp [-Y1, -Array.all_eq_true, -Y3, -Y4, and_assoc, Y5, Try.f15, sConC, sCoilC, y2]
  have e : ¬ (1 ≤ code ∧ code ≤ 3) ∧ 1 ≤ code ∧ code ≤ 11 := by omega
  by_cases h5 : op = 0
  · subst h5
    simp (maxSteps := 4000000) -dsimp [-Y1, -Array.all_eq_true, -Y3, -Y4, and_assoc, Y5, Try.f15, sConC, sCoilC, h1, h2, h3, h4, e]
    try exact Bool.eq_iff_iff.mpr (by simp)
  · simp (maxSteps := 4000000) -dsimp [-Y1, -Array.all_eq_true, -Y3, -Y4, and_assoc, Y5, Try.f15, sConC, sCoilC, h1, h2, h3, h4, h5, e]
def sListOkC_S : Reads Try.prog 15 where
  ι := ((Int) × (Int) × (Option Addr) × (Nat) × (List Dev))
  A := fun (i : ((Int) × (Int) × (Option Addr) × (Nat) × (List Dev))) => match i with | (code, op, o, cap, xs) => [.agg #[.int .i64 code, .int .i64 op, .slice o xs.length cap]]
  pre := fun (i : ((Int) × (Int) × (Option Addr) × (Nat) × (List Dev))) (F : Facts) => match i with | (code, op, o, cap, xs) => RdD F o xs ∧ xs.length ≤ 1048576
  res := fun (i : ((Int) × (Int) × (Option Addr) × (Nat) × (List Dev))) => match i with | (code, op, o, cap, xs) => .bool (insOk ⟨code, op, xs⟩)
  mono := by
    intro i F G hs h
    first | exact h | exact h.mono hs | exact ⟨h.1.mono hs, h.2⟩ | exact ⟨h.1.mono hs, h.2.1.mono hs, h.2.2⟩ | exact ⟨h.1.mono hs, h.2.1.mono hs⟩ | exact ⟨h.1.mono hs, h.2.1.mono hs, h.2.2.1.mono hs, h.2.2.2⟩
  uniq := by
    rintro ⟨code, op, o, cap, xs⟩ ⟨code', op', o', cap', xs'⟩ F hA h h'
    simp at hA
    (try simp only [Int.natCast_inj] at hA)
    obtain rfl : xs = xs' := RdD.uniq h.1 h'.1 (by simp_all) (by simp_all)
    simp_all
  enter := Try.call15
  h := fun i w hp => sListOkC_c i.1 i.2.1 i.2.2.1 i.2.2.2.1 i.2.2.2.2 w (by rw [factF_init]; exact hp)
def sListOkC : Con Try.prog := Con.read sListOkC_S
theorem sListOkC_rw {code op : Int} {o : Option Addr} {cap : Nat} {xs : List Dev} {d : Nat} {cx : Cx} {mem : List Blk} {K : C → Prop} (hpre : RdD (nowF cx mem) o xs ∧ xs.length ≤ 1048576) : ReadV d sListOkC_S cx [.v (.agg #[.int .i64 code, .int .i64 op, .slice o xs.length cap])] mem K = K (.v (.bool (insOk ⟨code, op, xs⟩))) := sListOkC_S.eq (code, op, o, cap, xs) rfl hpre

theorem code_or (c : Int) : (c = 1 ∨ c = 2 ∨ c = 3 ∨ c = 4 ∨ c = 5 ∨ c = 6 ∨ c = 7 ∨ c = 8 ∨ c = 9 ∨ c = 10 ∨ c = 11) ∨ (c < 1 ∨ 11 < c) := by omega
theorem insOk_out {x : Ins} (h : x.code < 1 ∨ 11 < x.code) : insOk x = false := by
  cases hx : insOk x
  · rfl
  · have := insOk_code hx; omega
theorem needsC_c (c : Int) (w : World) : Calls Try.prog 23 #[.int .i64 c] w fun e w' => e = .returned (.int .i64 (needsN c)) ∧ RowKit.Below w.heap.size w w' := by
  refine (plain_of_vcs ⟨[], []⟩ hmx Try.func23 rfl (by kernel_rfl) (args := [.int .i64 c]) (by simp [Try.ntmps23]) w (· = .int .i64 (needsN c)) 400 ?_).mono fun e w' ⟨v, h1, h2, h3⟩ => ⟨h2 ▸ h1, h3⟩
  by_cases h4 : c = 4
  · subst h4; simp (maxSteps := 4000000) -dsimp [-Y1, -Array.all_eq_true, -Y3, -Y4, and_assoc, Y5, Try.f23, needsN]
  by_cases h5 : c = 5
  · subst h5; simp (maxSteps := 4000000) -dsimp [-Y1, -Array.all_eq_true, -Y3, -Y4, and_assoc, Y5, Try.f23, needsN]
  by_cases h1 : c = 1
  · subst h1; simp (maxSteps := 4000000) -dsimp [-Y1, -Array.all_eq_true, -Y3, -Y4, and_assoc, Y5, Try.f23, needsN]
  · simp (maxSteps := 4000000) -dsimp [-Y1, -Array.all_eq_true, -Y3, -Y4, and_assoc, Y5, Try.f23, needsN, h1, h4, h5]
def needsC : Con Try.prog := Con.pure 23 Try.call23 (fun (c : ((Int))) => [.int .i64 c]) (fun (c : ((Int))) => True) (fun (c : ((Int))) => .int .i64 (needsN c)) fun c w _ => needsC_c c w
theorem sNeedsC_c (c : Int) (w : World) : Calls Try.prog 25 #[.int .i64 c] w fun e w' => e = .returned (.int .i64 (needsN c)) ∧ RowKit.Below w.heap.size w w' := by
  refine (plain_of_vcs ⟨[], []⟩ hmx Try.func25 rfl (by kernel_rfl) (args := [.int .i64 c]) (by simp [Try.ntmps25]) w (· = .int .i64 (needsN c)) 400 ?_).mono fun e w' ⟨v, h1, h2, h3⟩ => ⟨h2 ▸ h1, h3⟩
  by_cases h4 : c = 4
  · subst h4; simp (maxSteps := 4000000) -dsimp [-Y1, -Array.all_eq_true, -Y3, -Y4, and_assoc, Y5, Try.f25, needsN]
  by_cases h5 : c = 5
  · subst h5; simp (maxSteps := 4000000) -dsimp [-Y1, -Array.all_eq_true, -Y3, -Y4, and_assoc, Y5, Try.f25, needsN]
  by_cases h1 : c = 1
  · subst h1; simp (maxSteps := 4000000) -dsimp [-Y1, -Array.all_eq_true, -Y3, -Y4, and_assoc, Y5, Try.f25, needsN]
  · simp (maxSteps := 4000000) -dsimp [-Y1, -Array.all_eq_true, -Y3, -Y4, and_assoc, Y5, Try.f25, needsN, h1, h4, h5]
def sNeedsC : Con Try.prog := Con.pure 25 Try.call25 (fun (c : ((Int))) => [.int .i64 c]) (fun (c : ((Int))) => True) (fun (c : ((Int))) => .int .i64 (needsN c)) fun c w _ => sNeedsC_c c w
theorem wrongC_c (code op : Int) (o : Option Addr) (cap : Nat) (xs : List Dev) (b f : Int) (base : Bool) (bf : Int) (w : World) (hpre : RdD (factF ⟨w, [], w, []⟩) o xs ∧ xs.length ≤ 1048576 ∧ xs.length ≤ cap ∧ cap ≤ 9223372036854775807) : Calls Try.prog 10 #[.agg #[.int .i64 code, .int .i64 op, .slice o xs.length cap], .agg #[.int .i64 b, .int .i64 f], .bool base, .int .i64 bf] w fun e w' => e = .returned (.int .i64 (wrongN ⟨code, op, xs⟩ b f base (bf == 10))) ∧ RowKit.Below w.heap.size w w' := by
  refine (plain_of_vcs ⟨[iListOkC, needsC], []⟩ hmx Try.func10 rfl (by kernel_rfl) (args := [.agg #[.int .i64 code, .int .i64 op, .slice o xs.length cap], .agg #[.int .i64 b, .int .i64 f], .bool base, .int .i64 bf]) (by simp [Try.ntmps10]) w (· = .int .i64 (wrongN ⟨code, op, xs⟩ b f base (bf == 10))) 600 ?_).mono fun e w' ⟨v, h1, h2, h3⟩ => ⟨h2 ▸ h1, h3⟩
  obtain ⟨h, hl, hc1, hc2⟩ := hpre
  have y := fun d mem K => iListOkC_rw (code := code) (op := op) (cap := cap) (d := d) (cx := ⟨w, [], w, []⟩) (mem := mem) (K := K) ⟨h.mono (sub_now _ _), hl, hc1, hc2⟩
  obtain hc | hc := code_or code
  · cases hi : insOk ⟨code, op, xs⟩
    · have e : wrongN ⟨code, op, xs⟩ b f base (bf == 10) = 2 := by unfold wrongN; rw [hi]; rfl
      rw [e]
      clear e
      obtain rfl | rfl | rfl | rfl | rfl | rfl | rfl | rfl | rfl | rfl | rfl := hc
      all_goals
        simp (maxSteps := 4000000) -dsimp [-Y1, -Array.all_eq_true, -Y3, -Y4, and_assoc, Y5, Try.f10, iListOkC, needsC, y, hi]
    · have e : wrongN ⟨code, op, xs⟩ b f base (bf == 10) = if b < needsN code then 3 else if code = 1 ∧ 16 ≤ b then 4 else if 7 ≤ code ∧ 1 < b then 5
          else if base = true ∧ (((code = 3 ∨ code = 6) ∧ b = 1) ∨ (code = 5 ∧ b = 2)) then 6
          else if (code = 7 ∧ 8 ≤ f) ∨ ((code = 8 ∨ code = 9) ∧ f = 0) ∨ (code = 11 ∧ f ≠ 0) then 7
          else if (code = 8 ∨ code = 9 ∨ code = 11) ∧ (bf == 10) = false then 8 else 0 := by unfold wrongN; rw [hi]; rfl
      rw [e]
      clear e
      obtain rfl | rfl | rfl | rfl | rfl | rfl | rfl | rfl | rfl | rfl | rfl := hc
      all_goals
        cases base <;> simp (maxSteps := 4000000) -dsimp [-Y1, -Array.all_eq_true, -Y3, -Y4, and_assoc, Y5, Try.f10, iListOkC, needsC, y, hi, needsN]
        all_goals (repeat' first | exact trivial | (refine ⟨?_, ?_⟩) | intro _ | (split <;> omega) | omega | grind)
  · have hi := insOk_out (x := ⟨code, op, xs⟩) hc
    have e : wrongN ⟨code, op, xs⟩ b f base (bf == 10) = 2 := by unfold wrongN; rw [hi]; rfl
    have n : ¬ code = 7 ∧ ¬ code = 8 ∧ ¬ code = 9 ∧ ¬ code = 10 ∧ ¬ code = 11 := by omega
    rw [e]
    simp (maxSteps := 4000000) -dsimp [-Y1, -Array.all_eq_true, -Y3, -Y4, and_assoc, Y5, Try.f10, iListOkC, needsC, y, hi, n]
def wrongC_S : Reads Try.prog 10 where
  ι := ((Int) × (Int) × (Option Addr) × (Nat) × (List Dev) × (Int) × (Int) × (Bool) × (Int))
  A := fun (i : ((Int) × (Int) × (Option Addr) × (Nat) × (List Dev) × (Int) × (Int) × (Bool) × (Int))) => match i with | (code, op, o, cap, xs, b, f, base, bf) => [.agg #[.int .i64 code, .int .i64 op, .slice o xs.length cap], .agg #[.int .i64 b, .int .i64 f], .bool base, .int .i64 bf]
  pre := fun (i : ((Int) × (Int) × (Option Addr) × (Nat) × (List Dev) × (Int) × (Int) × (Bool) × (Int))) (F : Facts) => match i with | (code, op, o, cap, xs, b, f, base, bf) => RdD F o xs ∧ xs.length ≤ 1048576 ∧ xs.length ≤ cap ∧ cap ≤ 9223372036854775807
  res := fun (i : ((Int) × (Int) × (Option Addr) × (Nat) × (List Dev) × (Int) × (Int) × (Bool) × (Int))) => match i with | (code, op, o, cap, xs, b, f, base, bf) => .int .i64 (wrongN ⟨code, op, xs⟩ b f base (bf == 10))
  mono := by
    intro i F G hs h
    first | exact h | exact h.mono hs | exact ⟨h.1.mono hs, h.2⟩ | exact ⟨h.1.mono hs, h.2.1.mono hs, h.2.2⟩ | exact ⟨h.1.mono hs, h.2.1.mono hs⟩ | exact ⟨h.1.mono hs, h.2.1.mono hs, h.2.2.1.mono hs, h.2.2.2⟩
  uniq := by
    rintro ⟨code, op, o, cap, xs, b, f, base, bf⟩ ⟨code', op', o', cap', xs', b', f', base', bf'⟩ F hA h h'
    simp at hA
    (try simp only [Int.natCast_inj] at hA)
    obtain rfl : xs = xs' := RdD.uniq h.1 h'.1 (by simp_all) (by simp_all)
    simp_all
  enter := Try.call10
  h := fun i w hp => wrongC_c i.1 i.2.1 i.2.2.1 i.2.2.2.1 i.2.2.2.2.1 i.2.2.2.2.2.1 i.2.2.2.2.2.2.1 i.2.2.2.2.2.2.2.1 i.2.2.2.2.2.2.2.2 w (by rw [factF_init]; exact hp)
def wrongC : Con Try.prog := Con.read wrongC_S
theorem wrongC_rw {code op : Int} {o : Option Addr} {cap : Nat} {xs : List Dev} {b f : Int} {base : Bool} {bf : Int} {d : Nat} {cx : Cx} {mem : List Blk} {K : C → Prop} (hpre : RdD (nowF cx mem) o xs ∧ xs.length ≤ 1048576 ∧ xs.length ≤ cap ∧ cap ≤ 9223372036854775807) : ReadV d wrongC_S cx [.v (.agg #[.int .i64 code, .int .i64 op, .slice o xs.length cap]), .v (.agg #[.int .i64 b, .int .i64 f]), .v (.bool base), .v (.int .i64 bf)] mem K = K (.v (.int .i64 (wrongN ⟨code, op, xs⟩ b f base (bf == 10)))) := wrongC_S.eq (code, op, o, cap, xs, b, f, base, bf) rfl hpre
end Go.Proofs.Ytogbbbgmhobfiaa
