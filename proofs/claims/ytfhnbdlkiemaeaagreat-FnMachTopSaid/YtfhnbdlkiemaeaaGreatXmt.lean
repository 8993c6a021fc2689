/-
  Contracts: real numbers cut to whole ones; what coils reckon.
-/
import Derived.Test.YtfhnbdlkiemaeaaGreatImt
import Derived.Test.YtfhnbdlkiemaeaaGreatEmt
import Derived.Test.YtfhnbdlkiemaeaaGreatAmt
import Derived.Test.YtfhnbdlkiemaeaaGreatNmt
import Derived.Test.YtfhnbdlkiemaeaaGreatVmt
import Derived.Test.YtfhnbdlkiemaeaaGreatKmt
import Derived.Test.YtfhnbdlkiemaeaaGreatKimt
import Derived.Test.YtfhnbdlkiemaeaaGreatRwmt
import Derived.Laws.Externs
set_option linter.unusedVariables false
set_option linter.unusedSimpArgs false
set_option maxRecDepth 100000
set_option maxHeartbeats 4000000
namespace Go.Proofs.YtfhnbdlkiemaeaaGreat
open Go Go.Sx
open List renaming all_eq_true → Y1, zipIdx → Y5
open Bool renaming exists_bool → Y3, forall_bool → Y4
attribute [local simp] Sx.vcsE1 Sx.vcsE2 Sx.vcsE3 Sx.vcsE4 Sx.vcsE5 Sx.vcsE6 Sx.vcsE7 Sx.vcsE8 Sx.vcsE9 Sx.vcsE10 Sx.vcsE11 Sx.vcsE12 Sx.vcsE13 Sx.vcsE14 Sx.vcsE15 Sx.vcsE16 Sx.vcsE17 Sx.vcsE18 Sx.vcsE19 Sx.get Sx.look Sx.put Sx.pureFn Sx.findOrd Sx.unF Sx.dstOk Sx.isFloatT Sx.endVC Sx.resFn Sx.packC Sx.newFn Sx.storeFn Sx.buildFn Sx.known Sx.aggT Sx.cellsC Sx.findCon Sx.allV Sx.partsV Sx.partsC Sx.fillL Sx.exitTo Sx.fAr Sx.eqFn Sx.eqFieldsFn Sx.eqElemsFn Sx.partFn Sx.sliceFn Sx.boundFn Sx.AppV Sx.CopyV Sx.MakeSliceV Sx.NewsV Sx.GrowV Sx.TextV Sx.bytesL Sx.notInt Sx.typeAt Sx.argAt Sx.den Go.undef Go.Value.cells Go.Value.oneCell' Sx.Con.pure Sx.Con.some Sx.Con.read Sx.Con.make Sx.Con.ext Sx.Con.rel Sx.Con.extS Sx.Con.draw Sx.Con.step Sx.C.one Sx.Draws.steps

theorem fmt64j : FloatKind.f64.format = dbl := rfl

theorem realCmpC_c (op : Int) (a b : Nat) (w : World) : Calls Tryz.prog 115 #[.int .i64 op, .float .f64 a, .float .f64 b] w fun e w' => e = .returned (.bool (realCmp op a b)) ∧ RowKit.Below w.heap.size w w' := by
  refine (plain_of_vcs ⟨[], []⟩ hmx Tryz.func115 rfl (by kernel_rfl) (args := [.int .i64 op, .float .f64 a, .float .f64 b]) (by simp [Tryz.ntmps115]) w (· = .bool (realCmp op a b)) 400 ?_).mono fun e w' ⟨v, h1, h2, h3⟩ => ⟨h2 ▸ h1, h3⟩
  simp (maxSteps := 4000000) -dsimp [-Y1, -Array.all_eq_true, -Y3, -Y4, and_assoc, Y5, Tryz.f115]
  simp +contextual [realCmp, fmt64j]
def realCmpC : Con Tryz.prog := Con.pure 115 Tryz.call115 (fun (i : ((Int) × (Nat) × (Nat))) => match i with | (op, a, b) => [.int .i64 op, .float .f64 a, .float .f64 b]) (fun (i : ((Int) × (Nat) × (Nat))) => match i with | (op, a, b) => True) (fun (i : ((Int) × (Nat) × (Nat))) => match i with | (op, a, b) => .bool (realCmp op a b)) fun i w _ => realCmpC_c i.1 i.2.1 i.2.2 w
theorem sRealCmpC_c (op : Int) (a b : Nat) (w : World) : Calls Tryz.prog 151 #[.int .i64 op, .float .f64 a, .float .f64 b] w fun e w' => e = .returned (.bool (realCmp op a b)) ∧ RowKit.Below w.heap.size w w' := by
  refine (plain_of_vcs ⟨[], []⟩ hmx Tryz.func151 rfl (by kernel_rfl) (args := [.int .i64 op, .float .f64 a, .float .f64 b]) (by simp [Tryz.ntmps151]) w (· = .bool (realCmp op a b)) 400 ?_).mono fun e w' ⟨v, h1, h2, h3⟩ => ⟨h2 ▸ h1, h3⟩
  simp (maxSteps := 4000000) -dsimp [-Y1, -Array.all_eq_true, -Y3, -Y4, and_assoc, Y5, Tryz.f151]
  simp +contextual [realCmp, fmt64j]
def sRealCmpC : Con Tryz.prog := Con.pure 151 Tryz.call151 (fun (i : ((Int) × (Nat) × (Nat))) => match i with | (op, a, b) => [.int .i64 op, .float .f64 a, .float .f64 b]) (fun (i : ((Int) × (Nat) × (Nat))) => match i with | (op, a, b) => True) (fun (i : ((Int) × (Nat) × (Nat))) => match i with | (op, a, b) => .bool (realCmp op a b)) fun i w _ => sRealCmpC_c i.1 i.2.1 i.2.2 w
theorem wholeCmpC_c (op a b : Int) (hpre : a.natAbs < 65536 ∧ b.natAbs < 65536) (w : World) : Calls Tryz.prog 117 #[.int .i64 op, .int .i16 a, .int .i16 b] w fun e w' => e = .returned (.bool (wholeCmp op a b)) ∧ RowKit.Below w.heap.size w w' := by
  refine (plain_of_vcs ⟨[realCmpC], []⟩ hmx Tryz.func117 rfl (by kernel_rfl) (args := [.int .i64 op, .int .i16 a, .int .i16 b]) (by simp [Tryz.ntmps117]) w (· = .bool (wholeCmp op a b)) 400 ?_).mono fun e w' ⟨v, h1, h2, h3⟩ => ⟨h2 ▸ h1, h3⟩
  simp (maxSteps := 4000000) -dsimp [-Y1, -Array.all_eq_true, -Y3, -Y4, and_assoc, Y5, Tryz.f117, realCmpC]
  exact real_whole (by omega) (by omega)
def wholeCmpC : Con Tryz.prog := Con.pure 117 Tryz.call117 (fun (i : ((Int) × (Int) × (Int))) => match i with | (op, a, b) => [.int .i64 op, .int .i16 a, .int .i16 b]) (fun (i : ((Int) × (Int) × (Int))) => match i with | (op, a, b) => a.natAbs < 65536 ∧ b.natAbs < 65536) (fun (i : ((Int) × (Int) × (Int))) => match i with | (op, a, b) => .bool (wholeCmp op a b)) fun i w hp => wholeCmpC_c i.1 i.2.1 i.2.2 hp w
theorem sWholeCmpC_c (op a b : Int) (w : World) : Calls Tryz.prog 153 #[.int .i64 op, .int .i16 a, .int .i16 b] w fun e w' => e = .returned (.bool (wholeCmp op a b)) ∧ RowKit.Below w.heap.size w w' := by
  refine (plain_of_vcs ⟨[], []⟩ hmx Tryz.func153 rfl (by kernel_rfl) (args := [.int .i64 op, .int .i16 a, .int .i16 b]) (by simp [Tryz.ntmps153]) w (· = .bool (wholeCmp op a b)) 400 ?_).mono fun e w' ⟨v, h1, h2, h3⟩ => ⟨h2 ▸ h1, h3⟩
  simp (maxSteps := 4000000) -dsimp [-Y1, -Array.all_eq_true, -Y3, -Y4, and_assoc, Y5, Tryz.f153]
  simp +contextual [wholeCmp]
def sWholeCmpC : Con Tryz.prog := Con.pure 153 Tryz.call153 (fun (i : ((Int) × (Int) × (Int))) => match i with | (op, a, b) => [.int .i64 op, .int .i16 a, .int .i16 b]) (fun (i : ((Int) × (Int) × (Int))) => match i with | (op, a, b) => True) (fun (i : ((Int) × (Int) × (Int))) => match i with | (op, a, b) => .bool (wholeCmp op a b)) fun i w _ => sWholeCmpC_c i.1 i.2.1 i.2.2 w
theorem wasC_c (m : M) (k n p : Int) (hpre : MOk m) (w : World) : Calls Tryz.prog 112 #[.agg (cells m), .agg #[.int .i64 k, .int .i64 n, .int .i64 p]] w fun e w' => e = .returned (.bool (decide (k = 5) && memBit m k n)) ∧ RowKit.Below w.heap.size w w' := by
  refine (plain_of_vcs ⟨[memBitC], []⟩ hmx Tryz.func112 rfl (by kernel_rfl) (args := [.agg (cells m), .agg #[.int .i64 k, .int .i64 n, .int .i64 p]]) (by simp [Tryz.ntmps112]) w (· = .bool (decide (k = 5) && memBit m k n)) 400 ?_).mono fun e w' ⟨v, h1, h2, h3⟩ => ⟨h2 ▸ h1, h3⟩
  simp (maxSteps := 4000000) -dsimp [-Y1, -Array.all_eq_true, -Y3, -Y4, and_assoc, Y5, Tryz.f112, memBitC, hpre]
  simp +contextual
def wasC : Con Tryz.prog := Con.pure 112 Tryz.call112 (fun (i : ((M) × (Int) × (Int) × (Int))) => match i with | (m, k, n, p) => [.agg (cells m), .agg #[.int .i64 k, .int .i64 n, .int .i64 p]]) (fun (i : ((M) × (Int) × (Int) × (Int))) => match i with | (m, k, n, p) => MOk m) (fun (i : ((M) × (Int) × (Int) × (Int))) => match i with | (m, k, n, p) => .bool (decide (k = 5) && memBit m k n)) fun i w hp => wasC_c i.1 i.2.1 i.2.2.1 i.2.2.2 hp w
theorem keepC_c (m : M) (k n p : Int) (b : Bool) (hpre : MOk m) (w : World) : Calls Tryz.prog 113 #[.agg (cells m), .agg #[.int .i64 k, .int .i64 n, .int .i64 p], .bool b] w fun e w' => e = .returned (.agg (cells (if k = 5 then memPut m k n b else m))) ∧ RowKit.Below w.heap.size w w' := by
  refine (plain_of_vcs ⟨[memPutC], []⟩ hmx Tryz.func113 rfl (by kernel_rfl) (args := [.agg (cells m), .agg #[.int .i64 k, .int .i64 n, .int .i64 p], .bool b]) (by simp [Tryz.ntmps113]) w (· = .agg (cells (if k = 5 then memPut m k n b else m))) 400 ?_).mono fun e w' ⟨v, h1, h2, h3⟩ => ⟨h2 ▸ h1, h3⟩
  simp (maxSteps := 4000000) -dsimp [-Y1, -Array.all_eq_true, -Y3, -Y4, and_assoc, Y5, Tryz.f113, memPutC, hpre]
  simp +contextual
def keepC : Con Tryz.prog := Con.pure 113 Tryz.call113 (fun (i : ((M) × (Int) × (Int) × (Int) × (Bool))) => match i with | (m, k, n, p, b) => [.agg (cells m), .agg #[.int .i64 k, .int .i64 n, .int .i64 p], .bool b]) (fun (i : ((M) × (Int) × (Int) × (Int) × (Bool))) => match i with | (m, k, n, p, b) => MOk m) (fun (i : ((M) × (Int) × (Int) × (Int) × (Bool))) => match i with | (m, k, n, p, b) => .agg (cells (if k = 5 then memPut m k n b else m))) fun i w hp => keepC_c i.1 i.2.1 i.2.2.1 i.2.2.2.1 i.2.2.2.2 hp w
theorem putBitC_c (m : M) (k n p : Int) (b : Bool) (hpre : MOk m) (w : World) : Calls Tryz.prog 122 #[.agg (cells m), .agg #[.int .i64 k, .int .i64 n, .int .i64 p], .bool b] w fun e w' => e = .returned (.agg (cells (if k = 5 then m else memPut m k n b))) ∧ RowKit.Below w.heap.size w w' := by
  refine (plain_of_vcs ⟨[memPutC], []⟩ hmx Tryz.func122 rfl (by kernel_rfl) (args := [.agg (cells m), .agg #[.int .i64 k, .int .i64 n, .int .i64 p], .bool b]) (by simp [Tryz.ntmps122]) w (· = .agg (cells (if k = 5 then m else memPut m k n b))) 400 ?_).mono fun e w' ⟨v, h1, h2, h3⟩ => ⟨h2 ▸ h1, h3⟩
  simp (maxSteps := 4000000) -dsimp [-Y1, -Array.all_eq_true, -Y3, -Y4, and_assoc, Y5, Tryz.f122, memPutC, hpre]
  simp +contextual
def putBitC : Con Tryz.prog := Con.pure 122 Tryz.call122 (fun (i : ((M) × (Int) × (Int) × (Int) × (Bool))) => match i with | (m, k, n, p, b) => [.agg (cells m), .agg #[.int .i64 k, .int .i64 n, .int .i64 p], .bool b]) (fun (i : ((M) × (Int) × (Int) × (Int) × (Bool))) => match i with | (m, k, n, p, b) => MOk m) (fun (i : ((M) × (Int) × (Int) × (Int) × (Bool))) => match i with | (m, k, n, p, b) => .agg (cells (if k = 5 then m else memPut m k n b))) fun i w hp => putBitC_c i.1 i.2.1 i.2.2.1 i.2.2.2.1 i.2.2.2.2 hp w

theorem argC_c (op : Int) (o : Option Addr) (cap : Nat) (xs : List Dev) (j : Int) (w : World) (hpre : RdD (factF ⟨w, [], w, []⟩) o xs ∧ 0 ≤ j) : Calls Tryz.prog 110 #[.agg #[.int .i64 op, .slice o xs.length cap], .int .i64 j] w fun e w' => e = .returned (.agg #[.int .i64 (argD xs j.toNat).k, .int .i64 (argD xs j.toNat).n, .int .i64 (argD xs j.toNat).p]) ∧ RowKit.Below w.heap.size w w' := by
  refine (plain_of_vcs ⟨[], []⟩ hmx Tryz.func110 rfl (by kernel_rfl) (args := [.agg #[.int .i64 op, .slice o xs.length cap], .int .i64 j]) (by simp [Tryz.ntmps110]) w (· = .agg #[.int .i64 (argD xs j.toNat).k, .int .i64 (argD xs j.toNat).n, .int .i64 (argD xs j.toNat).p]) 400 ?_).mono fun e w' ⟨v, h1, h2, h3⟩ => ⟨h2 ▸ h1, h3⟩
  obtain ⟨hpre, hj⟩ := hpre
  obtain ⟨j, rfl⟩ := Int.eq_ofNat_of_zero_le hj
  by_cases hlt : j < xs.length
  · obtain ⟨d, hd⟩ : ∃ d, xs[j]? = some d := ⟨xs[j], by simp [hlt]⟩
    have n1 : ¬ xs.length ≤ j := by omega
    have n2 := hpre.there hlt
    have n3 : j < xs.length ↔ True := by simp [hlt]
    have n4 : argD xs j = d := by simp [argD, hd]
    clear hlt
    simp (maxSteps := 4000000) -dsimp [-Y1, -Array.all_eq_true, -Y3, -Y4, and_assoc, Y5, Tryz.f110, n1, n2, n3, hd, hpre.ld _ _ hd, n4]
  · have e : argD xs j = default := by simp [argD, List.getElem?_eq_none (show xs.length ≤ j by omega)]
    have n1 : xs.length ≤ j := by omega
    simp (maxSteps := 4000000) -dsimp [-Y1, -Array.all_eq_true, -Y3, -Y4, and_assoc, Y5, Tryz.f110, n1, e, default, instInhabitedDev]
def argC_S : Reads Tryz.prog 110 where
  ι := ((Int) × (Option Addr) × (Nat) × (List Dev) × (Int))
  A := fun (i : ((Int) × (Option Addr) × (Nat) × (List Dev) × (Int))) => match i with | (op, o, cap, xs, j) => [.agg #[.int .i64 op, .slice o xs.length cap], .int .i64 j]
  pre := fun (i : ((Int) × (Option Addr) × (Nat) × (List Dev) × (Int))) (F : Facts) => match i with | (op, o, cap, xs, j) => RdD F o xs ∧ 0 ≤ j
  res := fun (i : ((Int) × (Option Addr) × (Nat) × (List Dev) × (Int))) => match i with | (op, o, cap, xs, j) => .agg #[.int .i64 (argD xs j.toNat).k, .int .i64 (argD xs j.toNat).n, .int .i64 (argD xs j.toNat).p]
  mono := by
    intro i F G hs h
    first | exact h | exact h.mono hs | exact ⟨h.1.mono hs, h.2⟩ | exact ⟨h.1.mono hs, h.2.1.mono hs, h.2.2⟩ | exact ⟨h.1.mono hs, h.2.1.mono hs⟩
  uniq := by
    rintro ⟨op, o, cap, xs, j⟩ ⟨op', o', cap', xs', j'⟩ F hA h h'
    simp at hA
    (try simp only [Int.natCast_inj] at hA)
    obtain rfl : xs = xs' := RdD.uniq h.1 h'.1 (by simp_all) (by simp_all)
    simp_all
  enter := Tryz.call110
  h := fun i w hp => argC_c i.1 i.2.1 i.2.2.1 i.2.2.2.1 i.2.2.2.2 w (by rw [factF_init]; exact hp)
def argC : Con Tryz.prog := Con.read argC_S
theorem argC_rw {op : Int} {o : Option Addr} {cap : Nat} {xs : List Dev} {j : Int} {d : Nat} {cx : Cx} {mem : List Blk} {K : C → Prop} (hpre : RdD (nowF cx mem) o xs ∧ 0 ≤ j) : ReadV d argC_S cx [.v (.agg #[.int .i64 op, .slice o xs.length cap]), .v (.int .i64 j)] mem K = K (.v (.agg #[.int .i64 (argD xs j.toNat).k, .int .i64 (argD xs j.toNat).n, .int .i64 (argD xs j.toNat).p])) := argC_S.eq (op, o, cap, xs, j) rfl hpre
theorem actTestC_c (m : M) (op : Int) (o : Option Addr) (cap : Nat) (xs : List Dev) (w : World) (hpre : RdD (factF ⟨w, [], w, []⟩) o xs ∧ MOk m) : Calls Tryz.prog 52 #[.agg (cells m), .agg #[.int .i64 op, .slice o xs.length cap]] w fun e w' => e = .returned (.tuple #[.agg (cells (testM m op (argD xs 0) (argD xs 1))), .bool (testB m op (argD xs 0) (argD xs 1))]) ∧ RowKit.Below w.heap.size w w' := by
  refine (plain_of_vcs ⟨[argC, memBitC, wasC, keepC, withinC, isKindC, memRealC, realCmpC, memWholeC, wholeCmpC], []⟩ hmx Tryz.func52 rfl (by kernel_rfl) (args := [.agg (cells m), .agg #[.int .i64 op, .slice o xs.length cap]]) (by simp [Tryz.ntmps52]) w (· = .tuple #[.agg (cells (testM m op (argD xs 0) (argD xs 1))), .bool (testB m op (argD xs 0) (argD xs 1))]) 400 ?_).mono fun e w' ⟨v, h1, h2, h3⟩ => ⟨h2 ▸ h1, h3⟩
  obtain ⟨h, hm⟩ := hpre
  have a0 := fun d mem K => argC_rw (op := op) (cap := cap) (d := d) (cx := ⟨w, [], w, []⟩) (mem := mem) (K := K) (j := 0) ⟨h.mono (sub_now _ _), by decide⟩
  have a1 := fun d mem K => argC_rw (op := op) (cap := cap) (d := d) (cx := ⟨w, [], w, []⟩) (mem := mem) (K := K) (j := 1) ⟨h.mono (sub_now _ _), by decide⟩
  simp only [Int.toNat_zero, Int.toNat_one] at a0 a1
  generalize argD xs 0 = a at *
  generalize argD xs 1 = b at *
  by_cases h1 : op = 1
  · subst h1
    simp (maxSteps := 4000000) -dsimp [-Y1, -Array.all_eq_true, -Y3, -Y4, and_assoc, Y5, Tryz.f52, argC, memBitC, wasC, keepC, withinC, isKindC, memRealC, realCmpC, memWholeC, wholeCmpC, hm, a0, a1, testM, testB]
  by_cases h2 : op = 2
  · subst h2
    simp (maxSteps := 4000000) -dsimp [-Y1, -Array.all_eq_true, -Y3, -Y4, and_assoc, Y5, Tryz.f52, argC, memBitC, wasC, keepC, withinC, isKindC, memRealC, realCmpC, memWholeC, wholeCmpC, hm, a0, a1, testM, testB]
  by_cases h3 : op = 3
  · subst h3
    simp (maxSteps := 4000000) -dsimp [-Y1, -Array.all_eq_true, -Y3, -Y4, and_assoc, Y5, Tryz.f52, argC, memBitC, wasC, keepC, withinC, isKindC, memRealC, realCmpC, memWholeC, wholeCmpC, hm, a0, a1, testM, testB, wasB, keepM]
    clear a0 a1 h hm
    generalize memBit m a.k a.n = x
    generalize memBit m b.k b.n = y
    cases x <;> cases y <;> simp <;> try simp +contextual
  by_cases h4 : op = 4
  · subst h4
    simp (maxSteps := 4000000) -dsimp [-Y1, -Array.all_eq_true, -Y3, -Y4, and_assoc, Y5, Tryz.f52, argC, memBitC, wasC, keepC, withinC, isKindC, memRealC, realCmpC, memWholeC, wholeCmpC, hm, a0, a1, testM, testB, wasB, keepM]
    clear a0 a1 h hm
    generalize memBit m a.k a.n = x
    generalize memBit m b.k b.n = y
    cases x <;> cases y <;> simp <;> try simp +contextual
  by_cases h5 : 5 ≤ op ∧ op ≤ 10
  · have e1 : IntKind.i64.wrap (op - 5) = op - 5 := wrap_i64 (by omega) (by omega)
    have e2 : IntKind.i64.wrap (op - 5 + 1) = op - 4 := by rw [wrap_i64 (by omega) (by omega)]; omega
    have bw := fun k n => memWhole_bd (k := k) (n := n) hm
    simp (maxSteps := 4000000) -dsimp [-Y1, -Array.all_eq_true, -Y3, -Y4, and_assoc, Y5, Tryz.f52, argC, memBitC, wasC, keepC, withinC, isKindC, memRealC, realCmpC, memWholeC, wholeCmpC, hm, a0, a1, h1, h2, h3, h4, h5, e1, e2]
    clear a0 a1
    intro _ _ _ _ _
    refine ⟨fun cx' p hle hlit => ?_, fun h => by omega⟩
    refine (isKindC_rw (ks := [10, 12, 13]) (cap := 3) ⟨(hlit.ints [10, 12, 13] rfl).mono ((sub_new cx').trans (sub_now cx' _)), by decide⟩).mpr ?_
    have hw := hle.w0
    have hg := hle.g0
    clear hlit
    by_cases hr : isRealK a.k = true
    · have hr' : a.k = 10 ∨ a.k = 12 ∨ a.k = 13 := by simpa [isRealK] using hr
      simp (maxSteps := 4000000) -dsimp [-Y1, -Array.all_eq_true, -Y3, -Y4, and_assoc, Y5, Tryz.f52, argC, memBitC, wasC, keepC, withinC, isKindC, memRealC, realCmpC, memWholeC, wholeCmpC, hm, hr', hw, hg, testM, testB, h1, h2, h3, h4, h5, numB, hr]
    · have hr' : ¬ (a.k = 10 ∨ a.k = 12 ∨ a.k = 13) := by simpa [isRealK] using hr
      have b1 := bw a.k a.n
      have b2 := bw b.k b.n
      simp (maxSteps := 4000000) -dsimp [-Y1, -Array.all_eq_true, -Y3, -Y4, and_assoc, Y5, Tryz.f52, argC, memBitC, wasC, keepC, withinC, isKindC, memRealC, realCmpC, memWholeC, wholeCmpC, hm, hr', hw, hg, testM, testB, h1, h2, h3, h4, h5, numB, hr]
      omega
  · simp (maxSteps := 4000000) -dsimp [-Y1, -Array.all_eq_true, -Y3, -Y4, and_assoc, Y5, Tryz.f52, argC, memBitC, wasC, keepC, withinC, isKindC, memRealC, realCmpC, memWholeC, wholeCmpC, hm, a0, a1, h1, h2, h3, h4, h5, testM, testB]
    intro _ _ _ _ _ _ _; omega
def actTestC_S : Reads Tryz.prog 52 where
  ι := ((M) × (Int) × (Option Addr) × (Nat) × (List Dev))
  A := fun (i : ((M) × (Int) × (Option Addr) × (Nat) × (List Dev))) => match i with | (m, op, o, cap, xs) => [.agg (cells m), .agg #[.int .i64 op, .slice o xs.length cap]]
  pre := fun (i : ((M) × (Int) × (Option Addr) × (Nat) × (List Dev))) (F : Facts) => match i with | (m, op, o, cap, xs) => RdD F o xs ∧ MOk m
  res := fun (i : ((M) × (Int) × (Option Addr) × (Nat) × (List Dev))) => match i with | (m, op, o, cap, xs) => .tuple #[.agg (cells (testM m op (argD xs 0) (argD xs 1))), .bool (testB m op (argD xs 0) (argD xs 1))]
  mono := by
    intro i F G hs h
    first | exact h | exact h.mono hs | exact ⟨h.1.mono hs, h.2⟩ | exact ⟨h.1.mono hs, h.2.1.mono hs, h.2.2⟩ | exact ⟨h.1.mono hs, h.2.1.mono hs⟩
  uniq := by
    rintro ⟨m, op, o, cap, xs⟩ ⟨m', op', o', cap', xs'⟩ F hA h h'
    simp at hA
    (try simp only [Int.natCast_inj] at hA)
    obtain rfl : xs = xs' := RdD.uniq h.1 h'.1 (by simp_all) (by simp_all)
    simp_all
  enter := Tryz.call52
  h := fun i w hp => actTestC_c i.1 i.2.1 i.2.2.1 i.2.2.2.1 i.2.2.2.2 w (by rw [factF_init]; exact hp)
def actTestC : Con Tryz.prog := Con.read actTestC_S
theorem actTestC_rw {m : M} {op : Int} {o : Option Addr} {cap : Nat} {xs : List Dev} {d : Nat} {cx : Cx} {mem : List Blk} {K : C → Prop} (hpre : RdD (nowF cx mem) o xs ∧ MOk m) : ReadV d actTestC_S cx [.v (.agg (cells m)), .v (.agg #[.int .i64 op, .slice o xs.length cap])] mem K = K (.v (.tuple #[.agg (cells (testM m op (argD xs 0) (argD xs 1))), .bool (testB m op (argD xs 0) (argD xs 1))])) := actTestC_S.eq (m, op, o, cap, xs) rfl hpre

theorem toIntegral_eq (n : String) (way : Ieee.Toward) (x : Nat) : Extern.MathFloor.toIntegral n way #[.float .f64 x] = (match FloatKind.f64.decode x with
    | .nan s t =>
      if FloatKind.f64.format.quiet t = t then pure (.float .f64 x) else do
      let kept ← choose (.extern "math.Floor,Ceil,Trunc,RoundToEven.signallingNaN kept" 2)
      pure (.float .f64 (if kept == 1 then x else FloatKind.f64.encode (.nan s (FloatKind.f64.format.quiet t))))
    | d => pure (.float .f64 (FloatKind.f64.encode (d.integral way)))) := rfl
theorem nan_quiet (s : Bool) (t : Nat) : isNan (FloatKind.f64.encode (.nan s (FloatKind.f64.format.quiet t))) = true := by
  obtain ⟨c1, c2, c3, c4⟩ := consts
  have e : FloatKind.f64.encode (.nan s (FloatKind.f64.format.quiet t)) = dbl.word s (dbl.infRung + dbl.quiet t % dbl.binade) := rfl
  rw [e, isNan_iff, decide_eq_true_eq, c2, c3]
  have hq : dbl.quiet t % 4503599627370496 ≠ 0 := by
    intro h
    have h1 : (dbl.quiet t % 2 ^ 52).testBit 51 = true := by
      rw [Nat.testBit_mod_two_pow]
      unfold Ieee.Format.quiet
      have : dbl.fractionBits - 1 = 51 := rfl
      rw [this, Nat.testBit_or, Nat.testBit_two_pow]
      simp
    have e2 : (2 : Nat) ^ 52 = 4503599627370496 := rfl
    rw [e2, h] at h1
    simp at h1
  have hl : dbl.quiet t % 4503599627370496 < 4503599627370496 := Nat.mod_lt _ (by decide)
  generalize dbl.quiet t % 4503599627370496 = q at *
  unfold Ieee.Format.word
  rw [c1]
  cases s <;> simp <;> omega
theorem trunc_run (x : Nat) (w : World) : ∃ v n, (callFunc 227 #[.float .f64 x]).run Tryz.prog w = .ok (.value v) { w with drawn := n } ∧ ∃ c, v = .float .f64 c ∧ cutR x c := by
  rw [run_callFunc_extern (e := Extern.MathFloor.toIntegral "math.archTrunc" .zero) Tryz.func227 (by kernel_rfl) (by kernel_rfl) (by kernel_rfl) (by kernel_rfl), toIntegral_eq]
  have ed : FloatKind.f64.decode x = dbl.read x := rfl
  rw [ed]
  cases hr : dbl.read x with
  | number s m i => exact ⟨_, w.drawn, rfl, _, rfl, by unfold cutR; rw [hr]; simp only [integral_num]; rfl⟩
  | infinity s => exact ⟨_, w.drawn, rfl, _, rfl, by unfold cutR; rw [hr]; rfl⟩
  | nan s t =>
    simp only
    have hx : isNan x = true := by unfold isNan; rw [hr]; rfl
    by_cases h : FloatKind.f64.format.quiet t = t
    · rw [if_pos h]
      exact ⟨_, w.drawn, rfl, x, rfl, by unfold cutR; rw [hr]; exact hx⟩
    · rw [if_neg h]
      obtain ⟨k, w', h1, ⟨n, rfl⟩, _⟩ := Sx.run_choose (P := Tryz.prog) (Question.extern "math.Floor,Ceil,Trunc,RoundToEven.signallingNaN kept" 2) w
      refine ⟨_, n, by rw [Sem.run_bind, h1]; rfl, _, rfl, ?_⟩
      unfold cutR
      rw [hr]
      simp only
      split
      · exact hx
      · exact nan_quiet s t
def truncC0 : Con Tryz.prog := Con.extS 227 (fun x : Nat => [.float .f64 x]) (fun _ => True) (fun x v => ∃ c, v = .float .f64 c ∧ cutR x c) fun x w _ => trunc_run x w
theorem truncC_c (x : Nat) (w : World) : Calls Tryz.prog 180 #[.float .f64 x] w fun e w' => ∃ v, e = .returned v ∧ (fun v => ∃ c, v = .float .f64 c ∧ cutR x c) v ∧ RowKit.Below w.heap.size w w' := by
  refine plain_of_vcs ⟨[truncC0], []⟩ hmx Tryz.func180 rfl (by kernel_rfl) (args := [.float .f64 x]) (by simp [Tryz.ntmps180]) w (fun v => ∃ c, v = .float .f64 c ∧ cutR x c) 400 ?_
  simp (maxSteps := 4000000) -dsimp [-Y1, -Array.all_eq_true, -Y3, -Y4, and_assoc, Y5, Tryz.f180, truncC0]
  rintro v c rfl hc
  exact ⟨c, rfl, hc⟩
def truncC : Con Tryz.prog := Con.some 180 Tryz.call180 (fun (x : ((Nat))) => [.float .f64 x]) (fun (x : ((Nat))) => True) (fun (x : ((Nat))) => fun v => ∃ c, v = .float .f64 c ∧ cutR x c) fun x w _ => truncC_c x w
theorem fmt64x : FloatKind.f64.format = dbl := rfl
theorem realWholeC_c (x : Nat) (w : World) : Calls Tryz.prog 131 #[.float .f64 x] w fun e w' => e = .returned (.tuple #[.int .i16 (realWhole x).1, .bool (realWhole x).2]) ∧ RowKit.Below w.heap.size w w' := by
  refine (plain_of_vcs ⟨[truncC], []⟩ hmx Tryz.func131 rfl (by kernel_rfl) (args := [.float .f64 x]) (by simp [Tryz.ntmps131]) w (· = .tuple #[.int .i16 (realWhole x).1, .bool (realWhole x).2]) 400 ?_).mono fun e w' ⟨v, h1, h2, h3⟩ => ⟨h2 ▸ h1, h3⟩
  simp (maxSteps := 4000000) -dsimp [-Y1, -Array.all_eq_true, -Y3, -Y4, and_assoc, Y5, Tryz.f131, truncC]
  rintro v c rfl hc
  have hb := cut_inB hc
  unfold inB at hb
  cases hw : (realWhole x).2
  · have h0 := realWhole_no hw
    rw [hw] at hb
    simp (maxSteps := 4000000) -dsimp [-Y1, -Array.all_eq_true, -Y3, -Y4, and_assoc, Y5, Tryz.f131, truncC, fmt64x, h0]
    intro a b
    exfalso
    by_cases b1 : dbl.order c 4674736138332667904 = some .lt
    · rcases a with a | a <;> simp [a, b1] at hb
    · rcases a with a | a <;> simp [a, b b1] at hb
  · have h1 := fun r => cut_int (r := r) hc hw
    rw [hw] at hb
    simp at hb
    obtain ⟨a, b⟩ := hb
    simp (maxSteps := 4000000) -dsimp [-Y1, -Array.all_eq_true, -Y3, -Y4, and_assoc, Y5, Tryz.f131, truncC, fmt64x]
    exact ⟨fun _ => ⟨fun h => b.resolve_left h, fun _ => h1⟩, fun h => a.resolve_left h⟩
def realWholeC : Con Tryz.prog := Con.pure 131 Tryz.call131 (fun (x : ((Nat))) => [.float .f64 x]) (fun (x : ((Nat))) => True) (fun (x : ((Nat))) => .tuple #[.int .i16 (realWhole x).1, .bool (realWhole x).2]) fun x w _ => realWholeC_c x w
theorem sRealWholeC_c (x : Nat) (w : World) : Calls Tryz.prog 233 #[.float .f64 x] w fun e w' => e = .returned (.tuple #[.int .i16 (realWhole x).1, .bool (realWhole x).2]) ∧ RowKit.Below w.heap.size w w' := by
  refine (plain_of_vcs ⟨[], []⟩ hmx Tryz.func233 rfl (by kernel_rfl) (args := [.float .f64 x]) (by simp [Tryz.ntmps233]) w (· = .tuple #[.int .i16 (realWhole x).1, .bool (realWhole x).2]) 400 ?_).mono fun e w' ⟨v, h1, h2, h3⟩ => ⟨h2 ▸ h1, h3⟩
  have hb := spec_whole x
  cases hw : (realWhole x).2
  · have h0 := realWhole_no hw
    rw [hw] at hb
    simp (maxSteps := 4000000) -dsimp [-Y1, -Array.all_eq_true, -Y3, -Y4, and_assoc, Y5, Tryz.f233, fmt64x, h0]
    intro h1 h2
    simp [h1, h2] at hb
  · have h1 := fun r => spec_int (r := r) hw
    rw [hw] at hb
    simp at hb
    simp (maxSteps := 4000000) -dsimp [-Y1, -Array.all_eq_true, -Y3, -Y4, and_assoc, Y5, Tryz.f233, fmt64x, hb]
    exact h1
def sRealWholeC : Con Tryz.prog := Con.pure 233 Tryz.call233 (fun (x : ((Nat))) => [.float .f64 x]) (fun (x : ((Nat))) => True) (fun (x : ((Nat))) => .tuple #[.int .i16 (realWhole x).1, .bool (realWhole x).2]) fun x w _ => sRealWholeC_c x w
end Go.Proofs.YtfhnbdlkiemaeaaGreat
