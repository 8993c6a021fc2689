/-
  Contracts: the machine that looks, by the program.
-/
import Derived.Test.YtfhnbdlkiemaeaaGreatMrmt
import Derived.Test.YtfhnbdlkiemaeaaGreatSqmt
import Derived.Test.YtfhnbdlkiemaeaaGreatEmmt
set_option linter.unusedVariables false
set_option linter.unusedSimpArgs false
set_option maxRecDepth 100000
set_option maxHeartbeats 4000000
namespace Go.Proofs.YtfhnbdlkiemaeaaGreat
open Go Go.Sx
open List renaming all_eq_true → Y1, zipIdx → Y5
open Bool renaming exists_bool → Y3, forall_bool → Y4
attribute [local simp] Sx.vcsE1 Sx.vcsE2 Sx.vcsE3 Sx.vcsE4 Sx.vcsE5 Sx.vcsE6 Sx.vcsE7 Sx.vcsE8 Sx.vcsE9 Sx.vcsE10 Sx.vcsE11 Sx.vcsE12 Sx.vcsE13 Sx.vcsE14 Sx.vcsE15 Sx.vcsE16 Sx.vcsE17 Sx.vcsE18 Sx.vcsE19 Sx.get Sx.look Sx.put Sx.pureFn Sx.findOrd Sx.unF Sx.dstOk Sx.isFloatT Sx.endVC Sx.resFn Sx.packC Sx.newFn Sx.storeFn Sx.buildFn Sx.known Sx.aggT Sx.cellsC Sx.findCon Sx.allV Sx.partsV Sx.partsC Sx.fillL Sx.exitTo Sx.fAr Sx.eqFn Sx.eqFieldsFn Sx.eqElemsFn Sx.partFn Sx.sliceFn Sx.boundFn Sx.AppV Sx.CopyV Sx.MakeSliceV Sx.NewsV Sx.GrowV Sx.TextV Sx.bytesL Sx.notInt Sx.typeAt Sx.argAt Sx.den Go.undef Go.Value.cells Go.Value.oneCell' Sx.Con.pure Sx.Con.some Sx.Con.read Sx.Con.make Sx.Con.ext Sx.Con.rel Sx.Con.extS Sx.Con.draw Sx.Con.step Sx.C.one Sx.Draws.steps

theorem spl3j (a b c d e f : C) : splice [a, b, c] 0 [d, e, f] = [d, e, f] := rfl
theorem spl2w (a b c d : C) : splice [a, b] 0 [c, d] = [c, d] := rfl
theorem outsideC_c (k n p : Int) (w : World) : Calls Tryz.prog 100 #[.agg #[.int .i64 k, .int .i64 n, .int .i64 p]] w fun e w' => e = .returned (.bool (outD ⟨k, n, p⟩)) ∧ RowKit.Below w.heap.size w w' := by
  refine (plain_of_vcs ⟨[isDevC, devSizeC, withinC], []⟩ hmx Tryz.func100 rfl (by kernel_rfl) (args := [.agg #[.int .i64 k, .int .i64 n, .int .i64 p]]) (by simp [Tryz.ntmps100]) w (· = .bool (outD ⟨k, n, p⟩)) 400 ?_).mono fun e w' ⟨v, h1, h2, h3⟩ => ⟨h2 ▸ h1, h3⟩
  by_cases hk : 1 ≤ k ∧ k ≤ 10
  · have hd := devSize_pos hk.1 hk.2
    have e1 : IntKind.i64.wrap (devSize k - 1) = devSize k - 1 := wrap_i64 (by omega) (by omega)
    simp (maxSteps := 4000000) -dsimp [-Y1, -Array.all_eq_true, -Y3, -Y4, and_assoc, Y5, Tryz.f100, isDevC, devSizeC, withinC, hk, e1, outD]
    rw [Bool.eq_iff_iff]
    simp
    omega
  · have e : outD ⟨k, n, p⟩ = false := by unfold outD; simp; omega
    rw [e]
    simp (maxSteps := 4000000) -dsimp [-Y1, -Array.all_eq_true, -Y3, -Y4, and_assoc, Y5, Tryz.f100, isDevC, devSizeC, withinC, hk]
    omega
def outsideC : Con Tryz.prog := Con.pure 100 Tryz.call100 (fun (i : ((Int) × (Int) × (Int))) => match i with | (k, n, p) => [.agg #[.int .i64 k, .int .i64 n, .int .i64 p]]) (fun (i : ((Int) × (Int) × (Int))) => match i with | (k, n, p) => True) (fun (i : ((Int) × (Int) × (Int))) => match i with | (k, n, p) => .bool (outD ⟨k, n, p⟩)) fun i w _ => outsideC_c i.1 i.2.1 i.2.2 w
theorem outIdxC_c (o : Option Addr) (cap : Nat) (xs : List Dev) (w : World) (hpre : RdD (factF ⟨w, [], w, []⟩) o xs ∧ xs.length ≤ 1048576) : Calls Tryz.prog 165 #[.slice o xs.length cap, .func (.func 100) #[] #[]] w fun e w' => e = .returned (.int .i64 (fIdx outD xs 0)) ∧ RowKit.Below w.heap.size w w' := by
  refine (plain_of_vcs ⟨[outsideC], []⟩ hmx Tryz.func165 rfl (by kernel_rfl) (args := [.slice o xs.length cap, .func (.func 100) #[] #[]]) (by simp [Tryz.ntmps165]) w (· = .int .i64 (fIdx outD xs 0)) 400 ?_).mono fun e w' ⟨v, h1, h2, h3⟩ => ⟨h2 ▸ h1, h3⟩
  obtain ⟨h, hl⟩ := hpre
  simp (maxSteps := 4000000) -dsimp [-Y1, -Array.all_eq_true, -Y3, -Y4, and_assoc, Y5, Tryz.f165, outsideC]
  refine loop_inv (σ := ⟨[outsideC], []⟩) hmx (by kernel_rfl) (fun m cx tm mem => cx = ⟨w, [], w, []⟩ ∧ mem = [] ∧ ∃ i : Nat, i ≤ xs.length ∧ m = xs.length - i ∧ fIdx outD xs 0 = fIdx outD (xs.drop i) i ∧ Sx.look tm 8 = .v (.int .i64 i) ∧ Sx.look tm 7 = .v (.int .i64 xs.length) ∧ Sx.look tm 0 = .v (.slice o xs.length cap) ∧ Sx.look tm 1 = .v (.func (.func 100) #[] #[]))
    xs.length ⟨rfl, rfl, 0, by omega, rfl, rfl, by simp [Sx.look], by simp [Sx.look], by simp [Sx.look], by simp [Sx.look]⟩ ?_
  rintro m cx tm mem ⟨rfl, rfl, i, hi, rfl, hx, h8, h7, h0, h1⟩
  refine ⟨300, ?_⟩
  by_cases hlt : i < xs.length
  · obtain ⟨x, hxi⟩ : ∃ x, xs[i]? = some x := ⟨xs[i], by simp [hlt]⟩
    rw [fIdx_drop hxi] at hx
    cases hb : outD x
    · rw [if_neg (by simp [hb])] at hx
      have em : ∃ m', m' < xs.length - i ∧ ∃ i_1 : Nat, i_1 ≤ xs.length ∧ m' = xs.length - i_1 ∧ fIdx outD xs 0 = fIdx outD (xs.drop i_1) i_1 ∧ (i : Int) + 1 = i_1 := ⟨_, by omega, i + 1, by omega, rfl, hx, by omega⟩
      simp (maxSteps := 4000000) -dsimp [-Y1, -Array.all_eq_true, -Y3, -Y4, and_assoc, Y5, Tryz.f165, outsideC, h8, h7, h0, h1, hlt, i_succ (i := i) (by omega), h.there hlt, h.ld _ _ hxi, hb]
      simpa using em
    · rw [if_pos hb] at hx
      simp (maxSteps := 4000000) -dsimp [-Y1, -Array.all_eq_true, -Y3, -Y4, and_assoc, Y5, Tryz.f165, outsideC, h8, h7, h0, h1, hlt, i_succ (i := i) (by omega), h.there hlt, h.ld _ _ hxi, hb, hx]
  · obtain rfl : i = xs.length := by omega
    rw [List.drop_length, fIdx] at hx
    simp (maxSteps := 4000000) -dsimp [-Y1, -Array.all_eq_true, -Y3, -Y4, and_assoc, Y5, Tryz.f165, outsideC, h8, h7, h0, h1, hx]
def outIdxC_S : Reads Tryz.prog 165 where
  ι := ((Option Addr) × (Nat) × (List Dev))
  A := fun (i : ((Option Addr) × (Nat) × (List Dev))) => match i with | (o, cap, xs) => [.slice o xs.length cap, .func (.func 100) #[] #[]]
  pre := fun (i : ((Option Addr) × (Nat) × (List Dev))) (F : Facts) => match i with | (o, cap, xs) => RdD F o xs ∧ xs.length ≤ 1048576
  res := fun (i : ((Option Addr) × (Nat) × (List Dev))) => match i with | (o, cap, xs) => .int .i64 (fIdx outD xs 0)
  mono := by
    intro i F G hs h
    first | exact h | exact h.mono hs | exact ⟨h.1.mono hs, h.2⟩ | exact ⟨h.1.mono hs, h.2.1.mono hs, h.2.2⟩ | exact ⟨h.1.mono hs, h.2.1.mono hs⟩
  uniq := by
    rintro ⟨o, cap, xs⟩ ⟨o', cap', xs'⟩ F hA h h'
    simp at hA
    (try simp only [Int.natCast_inj] at hA)
    obtain rfl : xs = xs' := RdD.uniq h.1 h'.1 (by simp_all) (by simp_all)
    simp_all
  enter := Tryz.call165
  h := fun i w hp => outIdxC_c i.1 i.2.1 i.2.2 w (by rw [factF_init]; exact hp)
def outIdxC : Con Tryz.prog := Con.read outIdxC_S
theorem outIdxC_rw {o : Option Addr} {cap : Nat} {xs : List Dev} {d : Nat} {cx : Cx} {mem : List Blk} {K : C → Prop} (hpre : RdD (nowF cx mem) o xs ∧ xs.length ≤ 1048576) : ReadV d outIdxC_S cx [.v (.slice o xs.length cap), .v (.func (.func 100) #[] #[])] mem K = K (.v (.int .i64 (fIdx outD xs 0))) := outIdxC_S.eq (o, cap, xs) rfl hpre
theorem outAnyC_c (o : Option Addr) (cap : Nat) (xs : List Dev) (w : World) (hpre : RdD (factF ⟨w, [], w, []⟩) o xs ∧ xs.length ≤ 1048576) : Calls Tryz.prog 99 #[.slice o xs.length cap, .func (.func 100) #[] #[]] w fun e w' => e = .returned (.bool (xs.any outD)) ∧ RowKit.Below w.heap.size w w' := by
  refine (plain_of_vcs ⟨[outIdxC], []⟩ hmx Tryz.func99 rfl (by kernel_rfl) (args := [.slice o xs.length cap, .func (.func 100) #[] #[]]) (by simp [Tryz.ntmps99]) w (· = .bool (xs.any outD)) 400 ?_).mono fun e w' ⟨v, h1, h2, h3⟩ => ⟨h2 ▸ h1, h3⟩
  obtain ⟨h, hl⟩ := hpre
  have e := fIdx_any outD xs 0 (by decide)
  generalize xs.any outD = q at *
  simp (maxSteps := 4000000) -dsimp [-Y1, -Array.all_eq_true, -Y3, -Y4, and_assoc, Y5, Tryz.f99, outIdxC, outIdxC_rw ⟨h.mono (sub_now _ _), hl⟩]
  cases q <;> simp at e ⊢ <;> omega
def outAnyC_S : Reads Tryz.prog 99 where
  ι := ((Option Addr) × (Nat) × (List Dev))
  A := fun (i : ((Option Addr) × (Nat) × (List Dev))) => match i with | (o, cap, xs) => [.slice o xs.length cap, .func (.func 100) #[] #[]]
  pre := fun (i : ((Option Addr) × (Nat) × (List Dev))) (F : Facts) => match i with | (o, cap, xs) => RdD F o xs ∧ xs.length ≤ 1048576
  res := fun (i : ((Option Addr) × (Nat) × (List Dev))) => match i with | (o, cap, xs) => .bool (xs.any outD)
  mono := by
    intro i F G hs h
    first | exact h | exact h.mono hs | exact ⟨h.1.mono hs, h.2⟩ | exact ⟨h.1.mono hs, h.2.1.mono hs, h.2.2⟩ | exact ⟨h.1.mono hs, h.2.1.mono hs⟩
  uniq := by
    rintro ⟨o, cap, xs⟩ ⟨o', cap', xs'⟩ F hA h h'
    simp at hA
    (try simp only [Int.natCast_inj] at hA)
    obtain rfl : xs = xs' := RdD.uniq h.1 h'.1 (by simp_all) (by simp_all)
    simp_all
  enter := Tryz.call99
  h := fun i w hp => outAnyC_c i.1 i.2.1 i.2.2 w (by rw [factF_init]; exact hp)
def outAnyC : Con Tryz.prog := Con.read outAnyC_S
theorem outAnyC_rw {o : Option Addr} {cap : Nat} {xs : List Dev} {d : Nat} {cx : Cx} {mem : List Blk} {K : C → Prop} (hpre : RdD (nowF cx mem) o xs ∧ xs.length ≤ 1048576) : ReadV d outAnyC_S cx [.v (.slice o xs.length cap), .v (.func (.func 100) #[] #[])] mem K = K (.v (.bool (xs.any outD))) := outAnyC_S.eq (o, cap, xs) rfl hpre
theorem haltsC_c (t : MS) (code op : Int) (o : Option Addr) (cap : Nat) (xs : List Dev) (w : World) (hpre : RdD (factF ⟨w, [], w, []⟩) o xs ∧ xs.length ≤ 1048576) : Calls Tryz.prog 41 #[.agg (stA t), .agg #[.int .i64 code, .int .i64 op, .slice o xs.length cap]] w fun e w' => e = .returned (.int .i64 (haltN t.s.2 t.f.2 ⟨code, op, xs⟩)) ∧ RowKit.Below w.heap.size w w' := by
  refine (plain_of_vcs ⟨[isCodeC, needsC, outAnyC], []⟩ hmx Tryz.func41 rfl (by kernel_rfl) (args := [.agg (stA t), .agg #[.int .i64 code, .int .i64 op, .slice o xs.length cap]]) (by simp [Tryz.ntmps41]) w (· = .int .i64 (haltN t.s.2 t.f.2 ⟨code, op, xs⟩)) 400 ?_).mono fun e w' ⟨v, h1, h2, h3⟩ => ⟨h2 ▸ h1, h3⟩
  obtain ⟨h, hl⟩ := hpre
  have y := fun d mem K => outAnyC_rw (cap := cap) (d := d) (cx := ⟨w, [], w, []⟩) (mem := mem) (K := K) ⟨h.mono (sub_now _ _), hl⟩
  by_cases hc : 1 ≤ code ∧ code ≤ 11
  · have e : haltN t.s.2 t.f.2 ⟨code, op, xs⟩ = if t.s.2 < needsN code ∨ ((code = 8 ∨ code = 9) ∧ t.f.2 = 0) then 1 else if (code = 1 ∧ t.s.2 = 16) ∨ (code = 7 ∧ t.f.2 = 8) then 2 else if xs.any outD then 3 else 0 := by
      unfold haltN; rw [if_neg (by simpa using hc)]
    rw [e]
    clear e
    generalize xs.any outD = q at *
    by_cases u1 : t.s.2 < needsN code
    · simp (maxSteps := 4000000) -dsimp [-Y1, -Array.all_eq_true, -Y3, -Y4, and_assoc, Y5, Tryz.f41, isCodeC, needsC, outAnyC, -Sx.splice_two, spl3j, hc, u1, y]
      exact fun h => absurd h (by omega)
    have u2 : needsN code ≤ t.s.2 := by omega
    by_cases c8 : code = 8
    · subst c8
      by_cases f0 : t.f.2 = 0
      · simp (maxSteps := 4000000) -dsimp [-Y1, -Array.all_eq_true, -Y3, -Y4, and_assoc, Y5, Tryz.f41, isCodeC, needsC, outAnyC, -Sx.splice_two, spl3j, hc, u1, u2, y, f0]
      · cases q <;> simp (maxSteps := 4000000) -dsimp [-Y1, -Array.all_eq_true, -Y3, -Y4, and_assoc, Y5, Tryz.f41, isCodeC, needsC, outAnyC, -Sx.splice_two, spl3j, hc, u1, u2, y, f0]
    by_cases c9 : code = 9
    · subst c9
      by_cases f0 : t.f.2 = 0
      · simp (maxSteps := 4000000) -dsimp [-Y1, -Array.all_eq_true, -Y3, -Y4, and_assoc, Y5, Tryz.f41, isCodeC, needsC, outAnyC, -Sx.splice_two, spl3j, hc, u1, u2, y, f0]
      · cases q <;> simp (maxSteps := 4000000) -dsimp [-Y1, -Array.all_eq_true, -Y3, -Y4, and_assoc, Y5, Tryz.f41, isCodeC, needsC, outAnyC, -Sx.splice_two, spl3j, hc, u1, u2, y, f0]
    by_cases c1 : code = 1
    · subst c1
      by_cases f0 : t.s.2 = 16
      · simp (maxSteps := 4000000) -dsimp [-Y1, -Array.all_eq_true, -Y3, -Y4, and_assoc, Y5, Tryz.f41, isCodeC, needsC, outAnyC, -Sx.splice_two, spl3j, hc, u1, u2, y, f0]
      · cases q <;> simp (maxSteps := 4000000) -dsimp [-Y1, -Array.all_eq_true, -Y3, -Y4, and_assoc, Y5, Tryz.f41, isCodeC, needsC, outAnyC, -Sx.splice_two, spl3j, hc, u1, u2, y, f0]
    by_cases c7 : code = 7
    · subst c7
      by_cases f0 : t.f.2 = 8
      · simp (maxSteps := 4000000) -dsimp [-Y1, -Array.all_eq_true, -Y3, -Y4, and_assoc, Y5, Tryz.f41, isCodeC, needsC, outAnyC, -Sx.splice_two, spl3j, hc, u1, u2, y, f0]
      · cases q <;> simp (maxSteps := 4000000) -dsimp [-Y1, -Array.all_eq_true, -Y3, -Y4, and_assoc, Y5, Tryz.f41, isCodeC, needsC, outAnyC, -Sx.splice_two, spl3j, hc, u1, u2, y, f0]
    cases q <;> simp (maxSteps := 4000000) -dsimp [-Y1, -Array.all_eq_true, -Y3, -Y4, and_assoc, Y5, Tryz.f41, isCodeC, needsC, outAnyC, -Sx.splice_two, spl3j, hc, u1, u2, y, c8, c9, c1, c7]
  · have e : haltN t.s.2 t.f.2 ⟨code, op, xs⟩ = 0 := by unfold haltN; rw [if_pos hc]
    rw [e]
    by_cases hc1 : 1 ≤ code
    · have hc2 : ¬ code ≤ 11 := fun h => hc ⟨hc1, h⟩
      simp (maxSteps := 4000000) -dsimp [-Y1, -Array.all_eq_true, -Y3, -Y4, and_assoc, Y5, Tryz.f41, isCodeC, needsC, outAnyC, -Sx.splice_two, spl3j, hc1, hc2]
    · simp (maxSteps := 4000000) -dsimp [-Y1, -Array.all_eq_true, -Y3, -Y4, and_assoc, Y5, Tryz.f41, isCodeC, needsC, outAnyC, -Sx.splice_two, spl3j, hc1]
def haltsC_S : Reads Tryz.prog 41 where
  ι := ((MS) × (Int) × (Int) × (Option Addr) × (Nat) × (List Dev))
  A := fun (i : ((MS) × (Int) × (Int) × (Option Addr) × (Nat) × (List Dev))) => match i with | (t, code, op, o, cap, xs) => [.agg (stA t), .agg #[.int .i64 code, .int .i64 op, .slice o xs.length cap]]
  pre := fun (i : ((MS) × (Int) × (Int) × (Option Addr) × (Nat) × (List Dev))) (F : Facts) => match i with | (t, code, op, o, cap, xs) => RdD F o xs ∧ xs.length ≤ 1048576
  res := fun (i : ((MS) × (Int) × (Int) × (Option Addr) × (Nat) × (List Dev))) => match i with | (t, code, op, o, cap, xs) => .int .i64 (haltN t.s.2 t.f.2 ⟨code, op, xs⟩)
  mono := by
    intro i F G hs h
    first | exact h | exact h.mono hs | exact ⟨h.1.mono hs, h.2⟩ | exact ⟨h.1.mono hs, h.2.1.mono hs, h.2.2⟩ | exact ⟨h.1.mono hs, h.2.1.mono hs⟩
  uniq := by
    rintro ⟨t, code, op, o, cap, xs⟩ ⟨t', code', op', o', cap', xs'⟩ F hA h h'
    simp at hA
    (try simp only [Int.natCast_inj] at hA)
    obtain rfl : xs = xs' := RdD.uniq h.1 h'.1 (by simp_all) (by simp_all)
    simp_all
  enter := Tryz.call41
  h := fun i w hp => haltsC_c i.1 i.2.1 i.2.2.1 i.2.2.2.1 i.2.2.2.2.1 i.2.2.2.2.2 w (by rw [factF_init]; exact hp)
def haltsC : Con Tryz.prog := Con.read haltsC_S
theorem haltsC_rw {t : MS} {code op : Int} {o : Option Addr} {cap : Nat} {xs : List Dev} {d : Nat} {cx : Cx} {mem : List Blk} {K : C → Prop} (hpre : RdD (nowF cx mem) o xs ∧ xs.length ≤ 1048576) : ReadV d haltsC_S cx [.v (.agg (stA t)), .v (.agg #[.int .i64 code, .int .i64 op, .slice o xs.length cap])] mem K = K (.v (.int .i64 (haltN t.s.2 t.f.2 ⟨code, op, xs⟩))) := haltsC_S.eq (t, code, op, o, cap, xs) rfl hpre
structure IsWt (v : Value) (d : M × (Int × Int)) : Prop where
  ex : ∃ m, v = .tuple #[.agg (cells m), .agg #[.int .i64 d.2.1, .int .i64 d.2.2]] ∧ MSame m d.1 ∧ MOk m
theorem iWatchC_c (o : Option Addr) (cap : Nat) (xs : List Ins) (m : M) (s : Smp) (w : World) (hpre : RdN (factF ⟨w, [], w, []⟩) o xs ∧ MOk m ∧ SmpOk s ∧ xs.length ≤ 1048576 ∧ (∀ x ∈ xs, x.args.length ≤ 1048576)) : Calls Tryz.prog 9 #[.slice o xs.length cap, .agg (cells m), .agg (sampleL s.x s.dt s.f).toArray] w fun e w' => ∃ v, e = .returned v ∧ (fun v => IsWt v (watchN xs m s)) v ∧ RowKit.Below w.heap.size w w' := by
  refine plain_of_vcs ⟨[actStartC, haltsC, machStepC, actEndC], []⟩ hmx Tryz.func9 rfl (by kernel_rfl) (args := [.slice o xs.length cap, .agg (cells m), .agg (sampleL s.x s.dt s.f).toArray]) (by simp [Tryz.ntmps9]) w (fun v => IsWt v (watchN xs m s)) 400 ?_
  obtain ⟨h, hm, hsm, hl, hxa⟩ := hpre
  by_cases h1k : xs.length ≤ 1000
  · have hm1 : ¬ (1000 : Int) < xs.length := by omega
    have h0 := start_ok hm hsm
    obtain ⟨W, hW⟩ : ∃ W, W = watchGo s.dt xs xs.length 0 (startN m s) := ⟨_, rfl⟩
    have e : watchN xs m s = if W.1.1 ≠ 0 then (m, W.1) else (ranM W.2.m, (0, 0)) := by unfold watchN; rw [if_pos h1k, ← hW]; rfl
    rw [e]
    simp (maxSteps := 4000000) -dsimp [-Y1, -Array.all_eq_true, -Y3, -Y4, and_assoc, Y5, Tryz.f9, actStartC, haltsC, machStepC, actEndC, -Sx.splice_two, spl3i, spl2w, zero_st, st_build, sm_take, allV_map, sm_len, sm_inj, len_stL, hm1]
    intro b b1 b2 b3 b4
    refine loop_inv (σ := ⟨[actStartC, haltsC, machStepC, actEndC], []⟩) hmx (by kernel_rfl) (fun q cx tm mem => cx = ⟨w, [], w, []⟩ ∧ ∃ (i : Nat) (t : MS), i ≤ xs.length ∧ q = xs.length - i ∧ MSt t (Sx.runN (startN m s) s.dt (xs.take i)) ∧ MSOk t ∧ W = watchGo s.dt xs (xs.length - i) i (Sx.runN (startN m s) s.dt (xs.take i)) ∧ mem = [⟨b, cellC m, 38⟩, ⟨b1, List.map C.v (sampleL s.x s.dt s.f), 41⟩, ⟨b2, cellC zeroM, 38⟩, ⟨b3, [.v (.int .i64 0), .v (.int .i64 0)], 45⟩, ⟨b4, stC t, 60⟩] ∧
        Sx.look tm 23 = .v (.int .i64 i) ∧ Sx.look tm 22 = .v (.int .i64 xs.length) ∧ Sx.look tm 21 = .v (.slice o xs.length cap) ∧ Sx.look tm 4 = .p 0 b 0 ∧ Sx.look tm 5 = .p 1 b1 0 ∧ Sx.look tm 6 = .p 2 b2 0 ∧ Sx.look tm 7 = .p 3 b3 0 ∧ Sx.look tm 8 = .p 4 b4 0)
      xs.length ⟨rfl, 0, startN m s, by omega, rfl, MSt.refl _, h0, hW, rfl, by simp [Sx.look], by simp [Sx.look], by simp [Sx.look], by simp [Sx.look], by simp [Sx.look], by simp [Sx.look], by simp [Sx.look], by simp [Sx.look]⟩ ?_
    rintro q cx tm mem ⟨rfl, i, t, hi, rfl, hst, hok, hWi, rfl, j23, j22, j21, j4, j5, j6, j7, j8⟩
    refine ⟨500, ?_⟩
    by_cases hlt : i < xs.length
    · obtain ⟨x, hx⟩ : ∃ x, xs[i]? = some x := ⟨xs[i], by simp [hlt]⟩
      obtain ⟨o', cap', hat⟩ := h.at hx
      have hax := hxa x (List.mem_of_getElem? hx)
      have eg : xs.length - i = (xs.length - (i + 1)) + 1 := by omega
      rw [eg, watchGo_succ hx, ← hst.s, ← hst.f] at hWi
      have yh := fun d mem K => haltsC_rw (t := t) (code := x.code) (op := x.op) (o := o') (cap := cap') (xs := x.args) (d := d) (cx := ⟨w, [], w, []⟩) (mem := mem) (K := K) ⟨hat.args.mono (sub_now _ _), hax⟩
      have ex : haltN t.s.2 t.f.2 ⟨x.code, x.op, x.args⟩ = haltN t.s.2 t.f.2 x := rfl
      rw [ex] at yh
      by_cases hz : haltN t.s.2 t.f.2 x = 0
      · rw [if_neg (by simp [hz])] at hWi
        simp (maxSteps := 4000000) -dsimp [-Y1, -Array.all_eq_true, -Y3, -Y4, and_assoc, Y5, Tryz.f9, actStartC, haltsC, machStepC, actEndC, -Sx.splice_two, spl3i, spl3j, spl2w, zero_st, st_build, sm_take, allV_map, sm_len, sm_inj, len_stL, j23, j22, j21, j4, j5, j6, j7, j8, hlt, h.there hlt, hat.all, sm_get, sm_gete, yh, hz]
        intro b5
        refine ⟨(t, x.code, x.op, o', cap', x.args, s.dt), rfl, ⟨hat.args.mono (sub_now _ _), hok, hsm.dt.1, hsm.dt.2⟩, fun v hv => ?_⟩
        obtain ⟨t1, rfl, s1, k1⟩ := hv.ex
        simp (maxSteps := 4000000) -dsimp [-Y1, -Array.all_eq_true, -Y3, -Y4, and_assoc, Y5, Tryz.f9, actStartC, haltsC, machStepC, actEndC, -Sx.splice_two, spl3i, spl3j, spl2w, j23, j22, j21, j4, j5, j6, j7, j8, i_succ (i := i) (by omega)]
        exact ⟨5, xs.length - (i + 1), by omega, i + 1, by omega, rfl, t1, run_next hx hst s1, k1, by rw [hWi, runN_take hx], rfl, by omega⟩
      · rw [if_pos (by simpa using hz)] at hWi
        have hz' : ¬ W.1.1 = 0 := by rw [hWi]; exact hz
        rw [if_neg hz']
        simp (maxSteps := 4000000) -dsimp [-Y1, -Array.all_eq_true, -Y3, -Y4, and_assoc, Y5, Tryz.f9, actStartC, haltsC, machStepC, actEndC, -Sx.splice_two, spl3i, spl3j, spl2w, zero_st, st_build, sm_take, allV_map, sm_len, sm_inj, len_stL, j23, j22, j21, j4, j5, j6, j7, j8, hlt, h.there hlt, hat.all, sm_get, sm_gete, yh, hz]
        exact ⟨m, by rw [hWi], MSame_refl _, hm⟩
    · obtain rfl : i = xs.length := by omega
      rw [Nat.sub_self, watchGo, List.take_length] at hWi
      rw [List.take_length] at hst
      have hz' : W.1.1 = 0 := by rw [hWi]
      rw [if_pos hz']
      simp (maxSteps := 4000000) -dsimp [-Y1, -Array.all_eq_true, -Y3, -Y4, and_assoc, Y5, Tryz.f9, actStartC, haltsC, machStepC, actEndC, -Sx.splice_two, spl3i, spl3j, spl2w, zero_st, st_build, sm_take, allV_map, sm_len, sm_inj, len_stL, j23, j22, j21, j4, j5, j6, j7, j8, sm_get, sm_gete]
      exact ⟨_, rfl, by rw [hWi]; exact ran_same hst.m, ran_ok hok.m⟩
  · have hm1 : (1000 : Int) < xs.length := by omega
    have e : watchN xs m s = (m, (0, 0)) := by unfold watchN; rw [if_neg h1k]
    rw [e]
    simp (maxSteps := 4000000) -dsimp [-Y1, -Array.all_eq_true, -Y3, -Y4, and_assoc, Y5, Tryz.f9, actStartC, haltsC, machStepC, actEndC, hm1, -Sx.splice_two, spl2w]
    exact ⟨m, rfl, MSame_refl _, hm⟩
def iWatchC_S : Rels Tryz.prog 9 where
  ι := ((Option Addr) × (Nat) × (List Ins) × (M) × (Smp))
  A := fun (i : ((Option Addr) × (Nat) × (List Ins) × (M) × (Smp))) => match i with | (o, cap, xs, m, s) => [.slice o xs.length cap, .agg (cells m), .agg (sampleL s.x s.dt s.f).toArray]
  pre := fun (i : ((Option Addr) × (Nat) × (List Ins) × (M) × (Smp))) (F : Facts) => match i with | (o, cap, xs, m, s) => RdN F o xs ∧ MOk m ∧ SmpOk s ∧ xs.length ≤ 1048576 ∧ (∀ x ∈ xs, x.args.length ≤ 1048576)
  post := fun (i : ((Option Addr) × (Nat) × (List Ins) × (M) × (Smp))) => match i with | (o, cap, xs, m, s) => fun v => IsWt v (watchN xs m s)
  mono := by
    intro i F G hs h
    first | exact h | exact h.mono hs | exact ⟨h.1.mono hs, h.2⟩ | exact ⟨h.1.mono hs, h.2.1.mono hs, h.2.2⟩ | exact ⟨h.1.mono hs, h.2.1.mono hs⟩
  enter := Tryz.call9
  h := fun i w hp => iWatchC_c i.1 i.2.1 i.2.2.1 i.2.2.2.1 i.2.2.2.2 w (by rw [factF_init]; exact hp)
def iWatchC : Con Tryz.prog := Con.rel iWatchC_S
end Go.Proofs.YtfhnbdlkiemaeaaGreat
