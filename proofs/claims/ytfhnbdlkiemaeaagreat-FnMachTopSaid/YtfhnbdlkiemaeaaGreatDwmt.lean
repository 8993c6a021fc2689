/-
  Contracts: what coils do, by the reference.
-/
import Derived.Test.YtfhnbdlkiemaeaaGreatXmt
import Derived.Test.YtfhnbdlkiemaeaaGreatDmt
import Derived.Test.YtfhnbdlkiemaeaaGreatDqmt
import Derived.Test.YtfhnbdlkiemaeaaGreatDomt
set_option linter.unusedVariables false
set_option linter.unusedSimpArgs false
set_option maxRecDepth 100000
set_option maxHeartbeats 4000000
namespace Go.Proofs.YtfhnbdlkiemaeaaGreat
open Go Go.Sx
open List renaming all_eq_true → Y1, zipIdx → Y5
open Bool renaming exists_bool → Y3, forall_bool → Y4
attribute [local simp] Sx.vcsE1 Sx.vcsE2 Sx.vcsE3 Sx.vcsE4 Sx.vcsE5 Sx.vcsE6 Sx.vcsE7 Sx.vcsE8 Sx.vcsE9 Sx.vcsE10 Sx.vcsE11 Sx.vcsE12 Sx.vcsE13 Sx.vcsE14 Sx.vcsE15 Sx.vcsE16 Sx.vcsE17 Sx.vcsE18 Sx.vcsE19 Sx.get Sx.look Sx.put Sx.pureFn Sx.findOrd Sx.unF Sx.dstOk Sx.isFloatT Sx.endVC Sx.resFn Sx.packC Sx.newFn Sx.storeFn Sx.buildFn Sx.known Sx.aggT Sx.cellsC Sx.findCon Sx.allV Sx.partsV Sx.partsC Sx.fillL Sx.exitTo Sx.fAr Sx.eqFn Sx.eqFieldsFn Sx.eqElemsFn Sx.partFn Sx.sliceFn Sx.boundFn Sx.AppV Sx.CopyV Sx.MakeSliceV Sx.NewsV Sx.GrowV Sx.TextV Sx.bytesL Sx.notInt Sx.typeAt Sx.argAt Sx.den Go.undef Go.Value.cells Go.Value.oneCell' Sx.Con.pure Sx.Con.some Sx.Con.read Sx.Con.make Sx.Con.ext Sx.Con.rel Sx.Con.extS Sx.Con.draw Sx.Con.step Sx.C.one Sx.Draws.steps

theorem sArgC_c (op : Int) (o : Option Addr) (cap : Nat) (xs : List Dev) (j : Int) (w : World) (hpre : RdD (factF ⟨w, [], w, []⟩) o xs ∧ 0 ≤ j) : Calls Tryz.prog 147 #[.agg #[.int .i64 op, .slice o xs.length cap], .int .i64 j] w fun e w' => e = .returned (.agg #[.int .i64 (argD xs j.toNat).k, .int .i64 (argD xs j.toNat).n, .int .i64 (argD xs j.toNat).p]) ∧ RowKit.Below w.heap.size w w' := by
  refine (plain_of_vcs ⟨[], []⟩ hmx Tryz.func147 rfl (by kernel_rfl) (args := [.agg #[.int .i64 op, .slice o xs.length cap], .int .i64 j]) (by simp [Tryz.ntmps147]) w (· = .agg #[.int .i64 (argD xs j.toNat).k, .int .i64 (argD xs j.toNat).n, .int .i64 (argD xs j.toNat).p]) 400 ?_).mono fun e w' ⟨v, h1, h2, h3⟩ => ⟨h2 ▸ h1, h3⟩
  obtain ⟨hpre, hj⟩ := hpre
  obtain ⟨j, rfl⟩ := Int.eq_ofNat_of_zero_le hj
  by_cases hlt : j < xs.length
  · obtain ⟨d, hd⟩ : ∃ d, xs[j]? = some d := ⟨xs[j], by simp [hlt]⟩
    have n2 := hpre.there hlt
    have n3 : j < xs.length ↔ True := by simp [hlt]
    have n4 : argD xs j = d := by simp [argD, hd]
    clear hlt
    simp (maxSteps := 4000000) -dsimp [-Y1, -Array.all_eq_true, -Y3, -Y4, and_assoc, Y5, Tryz.f147, n2, n3, hd, hpre.ld _ _ hd, n4]
  · have e : argD xs j = default := by simp [argD, List.getElem?_eq_none (show xs.length ≤ j by omega)]
    have n1 : ¬ j < xs.length := hlt
    simp (maxSteps := 4000000) -dsimp [-Y1, -Array.all_eq_true, -Y3, -Y4, and_assoc, Y5, Tryz.f147, n1, e, default, instInhabitedDev]
def sArgC_S : Reads Tryz.prog 147 where
  ι := ((Int) × (Option Addr) × (Nat) × (List Dev) × (Int))
  A := fun (i : ((Int) × (Option Addr) × (Nat) × (List Dev) × (Int))) => match i with | (op, o, cap, xs, j) => [.agg #[.int .i64 op, .slice o xs.length cap], .int .i64 j]
  pre := fun (i : ((Int) × (Option Addr) × (Nat) × (List Dev) × (Int))) (F : Facts) => match i with | (op, o, cap, xs, j) => RdD F o xs ∧ 0 ≤ j
  res := fun (i : ((Int) × (Option Addr) × (Nat) × (List Dev) × (Int))) => match i with | (op, o, cap, xs, j) => .agg #[.int .i64 (argD xs j.toNat).k, .int .i64 (argD xs j.toNat).n, .int .i64 (argD xs j.toNat).p]
  mono := by
    intro i F G hs h
    first | exact h | exact h.mono hs | exact ⟨h.1.mono hs, h.2⟩ | exact ⟨h.1.mono hs, h.2.1.mono hs, h.2.2⟩ | exact ⟨h.1.mono hs, h.2.1.mono hs⟩
  uniq := by
    rintro ⟨op, o, cap, xs, j⟩ ⟨op', o', cap', xs', j'⟩ F hA h h'
    simp at hA
    (try simp only [Int.natCast_inj] at hA)
    obtain rfl : xs = xs' := RdD.uniq h.1 h'.1 (by simp_all) (by simp_all)
    simp_all
  enter := Tryz.call147
  h := fun i w hp => sArgC_c i.1 i.2.1 i.2.2.1 i.2.2.2.1 i.2.2.2.2 w (by rw [factF_init]; exact hp)
def sArgC : Con Tryz.prog := Con.read sArgC_S
theorem sArgC_rw {op : Int} {o : Option Addr} {cap : Nat} {xs : List Dev} {j : Int} {d : Nat} {cx : Cx} {mem : List Blk} {K : C → Prop} (hpre : RdD (nowF cx mem) o xs ∧ 0 ≤ j) : ReadV d sArgC_S cx [.v (.agg #[.int .i64 op, .slice o xs.length cap]), .v (.int .i64 j)] mem K = K (.v (.agg #[.int .i64 (argD xs j.toNat).k, .int .i64 (argD xs j.toNat).n, .int .i64 (argD xs j.toNat).p])) := sArgC_S.eq (op, o, cap, xs, j) rfl hpre
theorem sIsRealC_c (k n p : Int) (w : World) : Calls Tryz.prog 150 #[.agg #[.int .i64 k, .int .i64 n, .int .i64 p]] w fun e w' => e = .returned (.bool (isRealK k)) ∧ RowKit.Below w.heap.size w w' := by
  refine (plain_of_vcs ⟨[], []⟩ hmx Tryz.func150 rfl (by kernel_rfl) (args := [.agg #[.int .i64 k, .int .i64 n, .int .i64 p]]) (by simp [Tryz.ntmps150]) w (· = .bool (isRealK k)) 400 ?_).mono fun e w' ⟨v, h1, h2, h3⟩ => ⟨h2 ▸ h1, h3⟩
  simp (maxSteps := 4000000) -dsimp [-Y1, -Array.all_eq_true, -Y3, -Y4, and_assoc, Y5, Tryz.f150, isRealK]
  simp +contextual
  intro _ _; cases h : decide (k = 13) <;> simp_all
def sIsRealC : Con Tryz.prog := Con.pure 150 Tryz.call150 (fun (i : ((Int) × (Int) × (Int))) => match i with | (k, n, p) => [.agg #[.int .i64 k, .int .i64 n, .int .i64 p]]) (fun (i : ((Int) × (Int) × (Int))) => match i with | (k, n, p) => True) (fun (i : ((Int) × (Int) × (Int))) => match i with | (k, n, p) => .bool (isRealK k)) fun i w _ => sIsRealC_c i.1 i.2.1 i.2.2 w
theorem sActTestC_c (m : M) (op : Int) (o : Option Addr) (cap : Nat) (xs : List Dev) (w : World) (hpre : RdD (factF ⟨w, [], w, []⟩) o xs ∧ MOk m) : Calls Tryz.prog 80 #[.agg (cells m), .agg #[.int .i64 op, .slice o xs.length cap]] w fun e w' => e = .returned (.tuple #[.agg (cells (testM m op (argD xs 0) (argD xs 1))), .bool (testB m op (argD xs 0) (argD xs 1))]) ∧ RowKit.Below w.heap.size w w' := by
  refine (plain_of_vcs ⟨[sArgC, sMemBitC, sMemPutC, sIsRealC, sMemRealC, sRealCmpC, sMemWholeC, sWholeCmpC], [(17, [(0, false), (1, false), (2, false), (3, false), (4, false), (5, false), (6, false), (8, false), (9, false), (7, false), (0, true), (2, true), (8, true), (9, true), (10, false), (0, true), (2, true), (11, false), (12, false), (13, false)])]⟩ hmx Tryz.func80 rfl (by kernel_rfl) (args := [.agg (cells m), .agg #[.int .i64 op, .slice o xs.length cap]]) (by simp [Tryz.ntmps80]) w (· = .tuple #[.agg (cells (testM m op (argD xs 0) (argD xs 1))), .bool (testB m op (argD xs 0) (argD xs 1))]) 400 ?_).mono fun e w' ⟨v, h1, h2, h3⟩ => ⟨h2 ▸ h1, h3⟩
  obtain ⟨h, hm⟩ := hpre
  have a0 := fun d mem K => sArgC_rw (op := op) (cap := cap) (d := d) (cx := ⟨w, [], w, []⟩) (mem := mem) (K := K) (j := 0) ⟨h.mono (sub_now _ _), by decide⟩
  have a1 := fun d mem K => sArgC_rw (op := op) (cap := cap) (d := d) (cx := ⟨w, [], w, []⟩) (mem := mem) (K := K) (j := 1) ⟨h.mono (sub_now _ _), by decide⟩
  simp only [Int.toNat_zero, Int.toNat_one] at a0 a1
  generalize argD xs 0 = a at *
  generalize argD xs 1 = b at *
  by_cases h1 : op = 1
  · subst h1
    simp (maxSteps := 4000000) -dsimp [-Y1, -Array.all_eq_true, -Y3, -Y4, and_assoc, Y5, Tryz.f80, sArgC, sMemBitC, sMemPutC, sIsRealC, sMemRealC, sRealCmpC, sMemWholeC, sWholeCmpC, hm, a0, a1, testM, testB]
  by_cases h2 : op = 2
  · subst h2
    simp (maxSteps := 4000000) -dsimp [-Y1, -Array.all_eq_true, -Y3, -Y4, and_assoc, Y5, Tryz.f80, sArgC, sMemBitC, sMemPutC, sIsRealC, sMemRealC, sRealCmpC, sMemWholeC, sWholeCmpC, hm, a0, a1, testM, testB]
  by_cases h3 : op = 3
  · subst h3
    by_cases hb : b.k = 5
    · simp (maxSteps := 4000000) -dsimp [-Y1, -Array.all_eq_true, -Y3, -Y4, and_assoc, Y5, Tryz.f80, sArgC, sMemBitC, sMemPutC, sIsRealC, sMemRealC, sRealCmpC, sMemWholeC, sWholeCmpC, hm, a0, a1, testM, testB, wasB, keepM, hb]
      clear a0 a1 h hm
      generalize memBit m a.k a.n = x
      generalize memBit m 5 b.n = y
      cases x <;> cases y <;> simp <;> try simp +contextual
    · simp (maxSteps := 4000000) -dsimp [-Y1, -Array.all_eq_true, -Y3, -Y4, and_assoc, Y5, Tryz.f80, sArgC, sMemBitC, sMemPutC, sIsRealC, sMemRealC, sRealCmpC, sMemWholeC, sWholeCmpC, hm, a0, a1, testM, testB, wasB, keepM, hb]
  by_cases h4 : op = 4
  · subst h4
    by_cases hb : b.k = 5
    · simp (maxSteps := 4000000) -dsimp [-Y1, -Array.all_eq_true, -Y3, -Y4, and_assoc, Y5, Tryz.f80, sArgC, sMemBitC, sMemPutC, sIsRealC, sMemRealC, sRealCmpC, sMemWholeC, sWholeCmpC, hm, a0, a1, testM, testB, wasB, keepM, hb]
      clear a0 a1 h hm
      generalize memBit m a.k a.n = x
      generalize memBit m 5 b.n = y
      cases x <;> cases y <;> simp <;> try simp +contextual
    · simp (maxSteps := 4000000) -dsimp [-Y1, -Array.all_eq_true, -Y3, -Y4, and_assoc, Y5, Tryz.f80, sArgC, sMemBitC, sMemPutC, sIsRealC, sMemRealC, sRealCmpC, sMemWholeC, sWholeCmpC, hm, a0, a1, testM, testB, wasB, keepM, hb]
  by_cases h5 : 5 ≤ op ∧ op ≤ 10
  · have e1 : IntKind.i64.wrap (op - 5) = op - 5 := wrap_i64 (by omega) (by omega)
    have e2 : IntKind.i64.wrap (op - 5 + 1) = op - 4 := by rw [wrap_i64 (by omega) (by omega)]; omega
    by_cases hr : isRealK a.k = true
    · simp (maxSteps := 4000000) -dsimp [-Y1, -Array.all_eq_true, -Y3, -Y4, and_assoc, Y5, Tryz.f80, sArgC, sMemBitC, sMemPutC, sIsRealC, sMemRealC, sRealCmpC, sMemWholeC, sWholeCmpC, hm, a0, a1, testM, testB, h1, h2, h3, h4, h5, numB, hr, e1, e2]
      clear a0 a1
      rintro v x rfl h1 v' y rfl h2
      exact ⟨x, rfl, y, rfl, realCmp_sameF (memRealR_F hm h1) (memRealR_F hm h2)⟩
    · simp (maxSteps := 4000000) -dsimp [-Y1, -Array.all_eq_true, -Y3, -Y4, and_assoc, Y5, Tryz.f80, sArgC, sMemBitC, sMemPutC, sIsRealC, sMemRealC, sRealCmpC, sMemWholeC, sWholeCmpC, hm, a0, a1, testM, testB, h1, h2, h3, h4, h5, numB, hr, e1, e2]
  · simp (maxSteps := 4000000) -dsimp [-Y1, -Array.all_eq_true, -Y3, -Y4, and_assoc, Y5, Tryz.f80, sArgC, sMemBitC, sMemPutC, sIsRealC, sMemRealC, sRealCmpC, sMemWholeC, sWholeCmpC, hm, a0, a1, h1, h2, h3, h4, h5, testM, testB]
    intro _ _; omega
def sActTestC_S : Reads Tryz.prog 80 where
  ι := ((M) × (Int) × (Option Addr) × (Nat) × (List Dev))
  A := fun (i : ((M) × (Int) × (Option Addr) × (Nat) × (List Dev))) => match i with | (m, op, o, cap, xs) => [.agg (cells m), .agg #[.int .i64 op, .slice o xs.length cap]]
  pre := fun (i : ((M) × (Int) × (Option Addr) × (Nat) × (List Dev))) (F : Facts) => match i with | (m, op, o, cap, xs) => RdD F o xs ∧ MOk m
  res := fun (i : ((M) × (Int) × (Option Addr) × (Nat) × (List Dev))) => match i with | (m, op, o, cap, xs) => .tuple #[.agg (cells (testM m op (argD xs 0) (argD xs 1))), .bool (testB m op (argD xs 0) (argD xs 1))]
  mono := by
    intro i F G hs h
    first | exact h | exact h.mono hs | exact ⟨h.1.mono hs, h.2⟩ | exact ⟨h.1.mono hs, h.2.1.mono hs, h.2.2⟩ | exact ⟨h.1.mono hs, h.2.1.mono hs⟩
  uniq := by
    rintro ⟨m, op, o, cap, xs⟩ ⟨m', op', o', cap', xs'⟩ F hA h h'
    simp at hA
    (try simp only [Int.natCast_inj] at hA)
    obtain rfl : xs = xs' := RdD.uniq h.1 h'.1 (by simp_all) (by simp_all)
    simp_all
  enter := Tryz.call80
  h := fun i w hp => sActTestC_c i.1 i.2.1 i.2.2.1 i.2.2.2.1 i.2.2.2.2 w (by rw [factF_init]; exact hp)
def sActTestC : Con Tryz.prog := Con.read sActTestC_S
theorem sActTestC_rw {m : M} {op : Int} {o : Option Addr} {cap : Nat} {xs : List Dev} {d : Nat} {cx : Cx} {mem : List Blk} {K : C → Prop} (hpre : RdD (nowF cx mem) o xs ∧ MOk m) : ReadV d sActTestC_S cx [.v (.agg (cells m)), .v (.agg #[.int .i64 op, .slice o xs.length cap])] mem K = K (.v (.tuple #[.agg (cells (testM m op (argD xs 0) (argD xs 1))), .bool (testB m op (argD xs 0) (argD xs 1))])) := sActTestC_S.eq (m, op, o, cap, xs) rfl hpre





theorem sp2 (a b c d : Sx.C) : splice [a, b] 0 [c, d] = [c, d] := rfl
theorem sp3 (a b c d e f : Sx.C) : splice [a, b, c] 0 [d, e, f] = [d, e, f] := rfl
theorem sPresetC_c (m : M) (k n p : Int) (hpre : MOk m) (w : World) : Calls Tryz.prog 197 #[.agg (cells m), .agg #[.int .i64 k, .int .i64 n, .int .i64 p]] w fun e w' => e = .returned (.int .i64 (presetOf m ⟨k, n, p⟩)) ∧ RowKit.Below w.heap.size w w' := by
  refine (plain_of_vcs ⟨[sMemWholeC], []⟩ hmx Tryz.func197 rfl (by kernel_rfl) (args := [.agg (cells m), .agg #[.int .i64 k, .int .i64 n, .int .i64 p]]) (by simp [Tryz.ntmps197]) w (· = .int .i64 (presetOf m ⟨k, n, p⟩)) 400 ?_).mono fun e w' ⟨v, h1, h2, h3⟩ => ⟨h2 ▸ h1, h3⟩
  have hw := memWhole_bd (k := k) (n := n) hpre
  have e1 : IntKind.i64.wrap (memWhole m k n) = memWhole m k n := wrap_i64 (by omega) (by omega)
  simp (maxSteps := 4000000) -dsimp [-Y1, -Array.all_eq_true, -Y3, -Y4, and_assoc, Y5, Tryz.f197, sMemWholeC, hpre, e1, presetOf]
  omega
def sPresetC : Con Tryz.prog := Con.pure 197 Tryz.call197 (fun (i : ((M) × (Int) × (Int) × (Int))) => match i with | (m, k, n, p) => [.agg (cells m), .agg #[.int .i64 k, .int .i64 n, .int .i64 p]]) (fun (i : ((M) × (Int) × (Int) × (Int))) => match i with | (m, k, n, p) => MOk m) (fun (i : ((M) × (Int) × (Int) × (Int))) => match i with | (m, k, n, p) => .int .i64 (presetOf m ⟨k, n, p⟩)) fun i w hp => sPresetC_c i.1 i.2.1 i.2.2.1 i.2.2.2 hp w
theorem sLaterC_c (c dt p : Int) (hpre : 0 ≤ c ∧ c < 65536 ∧ 0 ≤ dt ∧ dt < 65536 ∧ 0 ≤ p ∧ p ≤ 32767) (w : World) : Calls Tryz.prog 198 #[.int .u16 c, .int .u16 dt, .int .i64 p] w fun e w' => e = .returned (.int .u16 (onw c dt p)) ∧ RowKit.Below w.heap.size w w' := by
  refine (plain_of_vcs ⟨[], []⟩ hmx Tryz.func198 rfl (by kernel_rfl) (args := [.int .u16 c, .int .u16 dt, .int .i64 p]) (by simp [Tryz.ntmps198]) w (· = .int .u16 (onw c dt p)) 400 ?_).mono fun e w' ⟨v, h1, h2, h3⟩ => ⟨h2 ▸ h1, h3⟩
  obtain ⟨h1, h2, h3, h4, h5⟩ := hpre
  have e1 : IntKind.i64.wrap c = c := wrap_i64 (by omega) (by omega)
  have e2 : IntKind.i64.wrap dt = dt := wrap_i64 (by omega) (by omega)
  have e3 : IntKind.i64.wrap (c + dt) = c + dt := wrap_i64 (by omega) (by omega)
  have ob := onw_bd h1 h3 h5
  by_cases hp : p < c + dt
  · have e4 : onw c dt p = p := by unfold onw; omega
    have e5 : IntKind.u16.wrap p = p := wrap_u16 (by omega) (by omega)
    simp (maxSteps := 4000000) -dsimp [-Y1, -Array.all_eq_true, -Y3, -Y4, and_assoc, Y5, Tryz.f198, e1, e2, e3, e4, hp, e5]
  · have e4 : onw c dt p = c + dt := by unfold onw; omega
    have e5 : IntKind.u16.wrap (c + dt) = c + dt := wrap_u16 (by omega) (by omega)
    simp (maxSteps := 4000000) -dsimp [-Y1, -Array.all_eq_true, -Y3, -Y4, and_assoc, Y5, Tryz.f198, e1, e2, e3, e4, hp, e5]
def sLaterC : Con Tryz.prog := Con.pure 198 Tryz.call198 (fun (i : ((Int) × (Int) × (Int))) => match i with | (c, dt, p) => [.int .u16 c, .int .u16 dt, .int .i64 p]) (fun (i : ((Int) × (Int) × (Int))) => match i with | (c, dt, p) => 0 ≤ c ∧ c < 65536 ∧ 0 ≤ dt ∧ dt < 65536 ∧ 0 ≤ p ∧ p ≤ 32767) (fun (i : ((Int) × (Int) × (Int))) => match i with | (c, dt, p) => .int .u16 (onw c dt p)) fun i w hp => sLaterC_c i.1 i.2.1 i.2.2 hp w
theorem sNotEC_c (m : M) (k n p : Int) (b : Bool) (hpre : MOk m) (w : World) : Calls Tryz.prog 158 #[.agg (cells m), .agg #[.int .i64 k, .int .i64 n, .int .i64 p], .bool b] w fun e w' => e = .returned (.agg (cells (putBM m ⟨k, n, p⟩ b))) ∧ RowKit.Below w.heap.size w w' := by
  refine (plain_of_vcs ⟨[sMemPutC], []⟩ hmx Tryz.func158 rfl (by kernel_rfl) (args := [.agg (cells m), .agg #[.int .i64 k, .int .i64 n, .int .i64 p], .bool b]) (by simp [Tryz.ntmps158]) w (· = .agg (cells (putBM m ⟨k, n, p⟩ b))) 400 ?_).mono fun e w' ⟨v, h1, h2, h3⟩ => ⟨h2 ▸ h1, h3⟩
  by_cases h : k = 5
  · simp (maxSteps := 4000000) -dsimp [-Y1, -Array.all_eq_true, -Y3, -Y4, and_assoc, Y5, Tryz.f158, sMemPutC, hpre, putBM, h]
  · simp (maxSteps := 4000000) -dsimp [-Y1, -Array.all_eq_true, -Y3, -Y4, and_assoc, Y5, Tryz.f158, sMemPutC, hpre, putBM, h]
def sNotEC : Con Tryz.prog := Con.pure 158 Tryz.call158 (fun (i : ((M) × (Int) × (Int) × (Int) × (Bool))) => match i with | (m, k, n, p, b) => [.agg (cells m), .agg #[.int .i64 k, .int .i64 n, .int .i64 p], .bool b]) (fun (i : ((M) × (Int) × (Int) × (Int) × (Bool))) => match i with | (m, k, n, p, b) => MOk m) (fun (i : ((M) × (Int) × (Int) × (Int) × (Bool))) => match i with | (m, k, n, p, b) => .agg (cells (putBM m ⟨k, n, p⟩ b))) fun i w hp => sNotEC_c i.1 i.2.1 i.2.2.1 i.2.2.2.1 i.2.2.2.2 hp w
theorem sTimeC_c (m : M) (op : Int) (o : Option Addr) (cap : Nat) (xs : List Dev) (v : Bool) (dt : Int) (w : World) (hpre : RdD (factF ⟨w, [], w, []⟩) o xs ∧ MOk m ∧ 0 ≤ dt ∧ dt < 65536 ∧ (op = 26 ∨ op = 27 ∨ op = 28)) : Calls Tryz.prog 159 #[.agg (cells m), .agg #[.int .i64 op, .slice o xs.length cap], .bool v, .int .u16 dt] w fun e w' => e = .returned (.agg (cells (timerM m op (argD xs 0).k (argD xs 0).n (presetOf m (argD xs 1)) v dt))) ∧ RowKit.Below w.heap.size w w' := by
  refine (plain_of_vcs ⟨[sArgC, l5AtC, sPresetC, sLaterC], []⟩ hmx Tryz.func159 rfl (by kernel_rfl) (args := [.agg (cells m), .agg #[.int .i64 op, .slice o xs.length cap], .bool v, .int .u16 dt]) (by simp [Tryz.ntmps159]) w (· = .agg (cells (timerM m op (argD xs 0).k (argD xs 0).n (presetOf m (argD xs 1)) v dt))) 400 ?_).mono fun e w' ⟨v, h1, h2, h3⟩ => ⟨h2 ▸ h1, h3⟩
  obtain ⟨h, hm, hd1, hd2, hop⟩ := hpre
  have a0 := fun d mem K => sArgC_rw (op := op) (cap := cap) (d := d) (cx := ⟨w, [], w, []⟩) (mem := mem) (K := K) (j := 0) ⟨h.mono (sub_now _ _), by decide⟩
  have a1 := fun d mem K => sArgC_rw (op := op) (cap := cap) (d := d) (cx := ⟨w, [], w, []⟩) (mem := mem) (K := K) (j := 1) ⟨h.mono (sub_now _ _), by decide⟩
  have a2 := fun d mem K => sArgC_rw (op := op) (cap := cap) (d := d) (cx := ⟨w, [], w, []⟩) (mem := mem) (K := K) (j := 2) ⟨h.mono (sub_now _ _), by decide⟩
  have t2 : Int.toNat 2 = 2 := rfl
  simp only [Int.toNat_zero, Int.toNat_one, t2] at a0 a1 a2
  generalize argD xs 0 = a at *
  generalize argD xs 1 = b at *
  generalize argD xs 2 = c at *
  have hb := (place_bd a.k a.n).1
  obtain ⟨l1, l2, l3, l4, l5, l6, l7, l8, l9, l10⟩ := place_lt a.n
  have pb := preset_bd (b := b) hm
  obtain ⟨p, hpp⟩ : ∃ p, presetOf m b = p := ⟨_, rfl⟩
  have eb : presetOf m ⟨b.k, b.n, b.p⟩ = p := hpp
  rw [hpp] at pb ⊢
  obtain ⟨hp1, hp2⟩ := pb
  by_cases hk : a.k = 7
  · rw [hk] at hb
    have hj : (place 7 a.n).toNat < 16 := by omega
    have hT := hm.T _ hj
    have g2 := fun m => get_TT m _ hj
    have s2 := fun m b x => set_TT m b x _ hj
    have ob1 : 5 + (place 7 a.n).toNat * 2 ≤ 134 := by omega
    have us := upd_self m.T (place 7 a.n).toNat
    obtain ⟨td, tc, ht⟩ : ∃ td tc, m.T (place 7 a.n).toNat = (td, tc) := ⟨_, _, rfl⟩
    rw [ht] at hT us
    simp only at hT
    have ow := onw_bd (c := tc) (dt := dt) hT.1 hd1 ⟨hp1, hp2⟩
    have e1 : IntKind.i64.wrap (onw tc dt p) = onw tc dt p := wrap_i64 (by omega) (by omega)
    by_cases h28 : op = 28
    · subst h28
      cases v
      · cases td
        · simp (maxSteps := 4000000) -dsimp [-Y1, -Array.all_eq_true, -Y3, -Y4, and_assoc, Y5, Tryz.f159, sArgC, l5AtC, sPresetC, sLaterC, -Sx.splice_two, sp2, hm, a0, a1, a2, hk, eb, timerM, timerT, hb, l7, g2, s2, hT, hp1, hp2, hd1, hd2, ht, ob1]
        · by_cases hp : p ≤ onw tc dt p
          · have hp' : ¬ onw tc dt p < p := by omega
            simp (maxSteps := 4000000) -dsimp [-Y1, -Array.all_eq_true, -Y3, -Y4, and_assoc, Y5, Tryz.f159, sArgC, l5AtC, sPresetC, sLaterC, -Sx.splice_two, sp2, hm, a0, a1, a2, hk, eb, timerM, timerT, hb, l7, g2, s2, hT, hp1, hp2, hd1, hd2, ht, ob1, e1, hp, hp']
          · have hp' : onw tc dt p < p := by omega
            simp (maxSteps := 4000000) -dsimp [-Y1, -Array.all_eq_true, -Y3, -Y4, and_assoc, Y5, Tryz.f159, sArgC, l5AtC, sPresetC, sLaterC, -Sx.splice_two, sp2, hm, a0, a1, a2, hk, eb, timerM, timerT, hb, l7, g2, s2, hT, hp1, hp2, hd1, hd2, ht, ob1, e1, hp, hp']
      · simp (maxSteps := 4000000) -dsimp [-Y1, -Array.all_eq_true, -Y3, -Y4, and_assoc, Y5, Tryz.f159, sArgC, l5AtC, sPresetC, sLaterC, -Sx.splice_two, sp2, hm, a0, a1, a2, hk, eb, timerM, timerT, hb, l7, g2, s2, hT, hp1, hp2, hd1, hd2, ht, ob1]
    · cases v
      · by_cases h26 : op = 26
        · subst h26
          simp (maxSteps := 4000000) -dsimp [-Y1, -Array.all_eq_true, -Y3, -Y4, and_assoc, Y5, Tryz.f159, sArgC, l5AtC, sPresetC, sLaterC, -Sx.splice_two, sp2, hm, a0, a1, a2, hk, eb, timerM, timerT, hb, l7, g2, s2, hT, hp1, hp2, hd1, hd2, ht, ob1, h28]
        · simp (maxSteps := 4000000) -dsimp [-Y1, -Array.all_eq_true, -Y3, -Y4, and_assoc, Y5, Tryz.f159, sArgC, l5AtC, sPresetC, sLaterC, -Sx.splice_two, sp2, hm, a0, a1, a2, hk, eb, timerM, timerT, hb, l7, g2, s2, hT, hp1, hp2, hd1, hd2, ht, ob1, h28, h26, us]
      · simp (maxSteps := 4000000) -dsimp [-Y1, -Array.all_eq_true, -Y3, -Y4, and_assoc, Y5, Tryz.f159, sArgC, l5AtC, sPresetC, sLaterC, -Sx.splice_two, sp2, hm, a0, a1, a2, hk, eb, timerM, timerT, hb, l7, g2, s2, hT, hp1, hp2, hd1, hd2, ht, ob1, h28, e1]
  · simp (maxSteps := 4000000) -dsimp [-Y1, -Array.all_eq_true, -Y3, -Y4, and_assoc, Y5, Tryz.f159, sArgC, l5AtC, sPresetC, sLaterC, timerM, hk, a0]
def sTimeC_S : Reads Tryz.prog 159 where
  ι := ((M) × (Int) × (Option Addr) × (Nat) × (List Dev) × (Bool) × (Int))
  A := fun (i : ((M) × (Int) × (Option Addr) × (Nat) × (List Dev) × (Bool) × (Int))) => match i with | (m, op, o, cap, xs, v, dt) => [.agg (cells m), .agg #[.int .i64 op, .slice o xs.length cap], .bool v, .int .u16 dt]
  pre := fun (i : ((M) × (Int) × (Option Addr) × (Nat) × (List Dev) × (Bool) × (Int))) (F : Facts) => match i with | (m, op, o, cap, xs, v, dt) => RdD F o xs ∧ MOk m ∧ 0 ≤ dt ∧ dt < 65536 ∧ (op = 26 ∨ op = 27 ∨ op = 28)
  res := fun (i : ((M) × (Int) × (Option Addr) × (Nat) × (List Dev) × (Bool) × (Int))) => match i with | (m, op, o, cap, xs, v, dt) => .agg (cells (timerM m op (argD xs 0).k (argD xs 0).n (presetOf m (argD xs 1)) v dt))
  mono := by
    intro i F G hs h
    first | exact h | exact h.mono hs | exact ⟨h.1.mono hs, h.2⟩ | exact ⟨h.1.mono hs, h.2.1.mono hs, h.2.2⟩ | exact ⟨h.1.mono hs, h.2.1.mono hs⟩
  uniq := by
    rintro ⟨m, op, o, cap, xs, v, dt⟩ ⟨m', op', o', cap', xs', v', dt'⟩ F hA h h'
    simp at hA
    (try simp only [Int.natCast_inj] at hA)
    obtain rfl : xs = xs' := RdD.uniq h.1 h'.1 (by simp_all) (by simp_all)
    simp_all
  enter := Tryz.call159
  h := fun i w hp => sTimeC_c i.1 i.2.1 i.2.2.1 i.2.2.2.1 i.2.2.2.2.1 i.2.2.2.2.2.1 i.2.2.2.2.2.2 w (by rw [factF_init]; exact hp)
def sTimeC : Con Tryz.prog := Con.read sTimeC_S
theorem sTimeC_rw {m : M} {op : Int} {o : Option Addr} {cap : Nat} {xs : List Dev} {v : Bool} {dt : Int} {d : Nat} {cx : Cx} {mem : List Blk} {K : C → Prop} (hpre : RdD (nowF cx mem) o xs ∧ MOk m ∧ 0 ≤ dt ∧ dt < 65536 ∧ (op = 26 ∨ op = 27 ∨ op = 28)) : ReadV d sTimeC_S cx [.v (.agg (cells m)), .v (.agg #[.int .i64 op, .slice o xs.length cap]), .v (.bool v), .v (.int .u16 dt)] mem K = K (.v (.agg (cells (timerM m op (argD xs 0).k (argD xs 0).n (presetOf m (argD xs 1)) v dt)))) := sTimeC_S.eq (m, op, o, cap, xs, v, dt) rfl hpre
theorem sCountC_c (m : M) (op : Int) (o : Option Addr) (cap : Nat) (xs : List Dev) (v : Bool) (w : World) (hpre : RdD (factF ⟨w, [], w, []⟩) o xs ∧ MOk m) : Calls Tryz.prog 160 #[.agg (cells m), .agg #[.int .i64 op, .slice o xs.length cap], .bool v] w fun e w' => e = .returned (.agg (cells (counterM m (argD xs 0).k (argD xs 0).n (presetOf m (argD xs 1)) v))) ∧ RowKit.Below w.heap.size w w' := by
  refine (plain_of_vcs ⟨[sArgC, l5AtC, sPresetC], []⟩ hmx Tryz.func160 rfl (by kernel_rfl) (args := [.agg (cells m), .agg #[.int .i64 op, .slice o xs.length cap], .bool v]) (by simp [Tryz.ntmps160]) w (· = .agg (cells (counterM m (argD xs 0).k (argD xs 0).n (presetOf m (argD xs 1)) v))) 400 ?_).mono fun e w' ⟨v, h1, h2, h3⟩ => ⟨h2 ▸ h1, h3⟩
  obtain ⟨h, hm⟩ := hpre
  have a0 := fun d mem K => sArgC_rw (op := op) (cap := cap) (d := d) (cx := ⟨w, [], w, []⟩) (mem := mem) (K := K) (j := 0) ⟨h.mono (sub_now _ _), by decide⟩
  have a1 := fun d mem K => sArgC_rw (op := op) (cap := cap) (d := d) (cx := ⟨w, [], w, []⟩) (mem := mem) (K := K) (j := 1) ⟨h.mono (sub_now _ _), by decide⟩
  simp only [Int.toNat_zero, Int.toNat_one] at a0 a1
  generalize argD xs 0 = a at *
  generalize argD xs 1 = b at *
  have hb := (place_bd a.k a.n).1
  obtain ⟨l1, l2, l3, l4, l5, l6, l7, l8, l9, l10⟩ := place_lt a.n
  obtain ⟨p, hpp⟩ : ∃ p, presetOf m b = p := ⟨_, rfl⟩
  have eb : presetOf m ⟨b.k, b.n, b.p⟩ = p := hpp
  rw [hpp]
  by_cases hk : a.k = 8
  · rw [hk] at hb
    have hj : (place 8 a.n).toNat < 16 := by omega
    have hT := hm.C _ hj
    have g2 := fun m => get_CC m _ hj
    have s2 := fun m b c x => set_CC m b c x _ hj
    have ob1 : 37 + (place 8 a.n).toNat * 3 ≤ 133 := by omega
    obtain ⟨td, tl, tc, ht⟩ : ∃ td tl tc, m.C (place 8 a.n).toNat = (td, tl, tc) := ⟨_, _, _, rfl⟩
    rw [ht] at hT
    simp only at hT
    by_cases h65 : tc < 65535
    · have e1 : IntKind.u16.wrap (tc + 1) = tc + 1 := wrap_u16 (by omega) (by omega)
      have e2 : IntKind.i64.wrap (tc + 1) = tc + 1 := wrap_i64 (by omega) (by omega)
      have e3 : IntKind.i64.wrap tc = tc := wrap_i64 (by omega) (by omega)
      cases v <;> cases tl
      all_goals
        simp (maxSteps := 4000000) -dsimp [-Y1, -Array.all_eq_true, -Y3, -Y4, and_assoc, Y5, Tryz.f160, sArgC, l5AtC, sPresetC, -Sx.splice_two, sp3, hm, a0, a1, hk, eb, counterM, cntC, cntN, hb, l8, g2, s2, hT, ht, ob1, h65, e1, e2, e3]
        (try omega)
    · have e3 : IntKind.i64.wrap tc = tc := wrap_i64 (by omega) (by omega)
      cases v <;> cases tl
      all_goals
        simp (maxSteps := 4000000) -dsimp [-Y1, -Array.all_eq_true, -Y3, -Y4, and_assoc, Y5, Tryz.f160, sArgC, l5AtC, sPresetC, -Sx.splice_two, sp3, hm, a0, a1, hk, eb, counterM, cntC, cntN, hb, l8, g2, s2, hT, ht, ob1, h65, e3]
        (try omega)
  · simp (maxSteps := 4000000) -dsimp [-Y1, -Array.all_eq_true, -Y3, -Y4, and_assoc, Y5, Tryz.f160, sArgC, l5AtC, sPresetC, counterM, hk, a0]
def sCountC_S : Reads Tryz.prog 160 where
  ι := ((M) × (Int) × (Option Addr) × (Nat) × (List Dev) × (Bool))
  A := fun (i : ((M) × (Int) × (Option Addr) × (Nat) × (List Dev) × (Bool))) => match i with | (m, op, o, cap, xs, v) => [.agg (cells m), .agg #[.int .i64 op, .slice o xs.length cap], .bool v]
  pre := fun (i : ((M) × (Int) × (Option Addr) × (Nat) × (List Dev) × (Bool))) (F : Facts) => match i with | (m, op, o, cap, xs, v) => RdD F o xs ∧ MOk m
  res := fun (i : ((M) × (Int) × (Option Addr) × (Nat) × (List Dev) × (Bool))) => match i with | (m, op, o, cap, xs, v) => .agg (cells (counterM m (argD xs 0).k (argD xs 0).n (presetOf m (argD xs 1)) v))
  mono := by
    intro i F G hs h
    first | exact h | exact h.mono hs | exact ⟨h.1.mono hs, h.2⟩ | exact ⟨h.1.mono hs, h.2.1.mono hs, h.2.2⟩ | exact ⟨h.1.mono hs, h.2.1.mono hs⟩
  uniq := by
    rintro ⟨m, op, o, cap, xs, v⟩ ⟨m', op', o', cap', xs', v'⟩ F hA h h'
    simp at hA
    (try simp only [Int.natCast_inj] at hA)
    obtain rfl : xs = xs' := RdD.uniq h.1 h'.1 (by simp_all) (by simp_all)
    simp_all
  enter := Tryz.call160
  h := fun i w hp => sCountC_c i.1 i.2.1 i.2.2.1 i.2.2.2.1 i.2.2.2.2.1 i.2.2.2.2.2 w (by rw [factF_init]; exact hp)
def sCountC : Con Tryz.prog := Con.read sCountC_S
theorem sCountC_rw {m : M} {op : Int} {o : Option Addr} {cap : Nat} {xs : List Dev} {v : Bool} {d : Nat} {cx : Cx} {mem : List Blk} {K : C → Prop} (hpre : RdD (nowF cx mem) o xs ∧ MOk m) : ReadV d sCountC_S cx [.v (.agg (cells m)), .v (.agg #[.int .i64 op, .slice o xs.length cap]), .v (.bool v)] mem K = K (.v (.agg (cells (counterM m (argD xs 0).k (argD xs 0).n (presetOf m (argD xs 1)) v)))) := sCountC_S.eq (m, op, o, cap, xs, v) rfl hpre
end Go.Proofs.YtfhnbdlkiemaeaaGreat
namespace Go.Sx
open Go

theorem realWhole_same {a b : Nat} (h : sameF a b) : realWhole a = realWhole b := by
  rcases h with ⟨rfl, _⟩ | ⟨ha, hb⟩
  · rfl
  · obtain ⟨s, t, e⟩ := read_nan ha
    obtain ⟨s', t', e'⟩ := read_nan hb
    unfold realWhole
    rw [e, e']
theorem tdiv_bd {a b : Int} (ha : -32768 ≤ a ∧ a ≤ 32767) (hb : b ≠ 0) : -32768 ≤ a.tdiv b ∧ a.tdiv b ≤ 32768 := by
  have h1 : (a.tdiv b).natAbs ≤ a.natAbs := by
    rw [Int.natAbs_tdiv]; exact Nat.div_le_self _ _
  omega
theorem mul_bd {a b : Int} (ha : -32768 ≤ a ∧ a ≤ 32767) (hb : -32768 ≤ b ∧ b ≤ 32767) : -1073741824 ≤ a * b ∧ a * b ≤ 1073741824 := by
  have h1 : (a * b).natAbs ≤ 32768 * 32768 := by
    rw [Int.natAbs_mul]; exact Nat.mul_le_mul (by omega) (by omega)
  omega
end Go.Sx
namespace Go.Proofs.YtfhnbdlkiemaeaaGreat
open Go Go.Sx
open List renaming all_eq_true → Y1, zipIdx → Y5
open Bool renaming exists_bool → Y3, forall_bool → Y4
attribute [local simp] Sx.vcsE1 Sx.vcsE2 Sx.vcsE3 Sx.vcsE4 Sx.vcsE5 Sx.vcsE6 Sx.vcsE7 Sx.vcsE8 Sx.vcsE9 Sx.vcsE10 Sx.vcsE11 Sx.vcsE12 Sx.vcsE13 Sx.vcsE14 Sx.vcsE15 Sx.vcsE16 Sx.vcsE17 Sx.vcsE18 Sx.vcsE19 Sx.get Sx.look Sx.put Sx.pureFn Sx.findOrd Sx.unF Sx.dstOk Sx.isFloatT Sx.endVC Sx.resFn Sx.packC Sx.newFn Sx.storeFn Sx.buildFn Sx.known Sx.aggT Sx.cellsC Sx.findCon Sx.allV Sx.partsV Sx.partsC Sx.fillL Sx.exitTo Sx.fAr Sx.eqFn Sx.eqFieldsFn Sx.eqElemsFn Sx.partFn Sx.sliceFn Sx.boundFn Sx.AppV Sx.CopyV Sx.MakeSliceV Sx.NewsV Sx.GrowV Sx.TextV Sx.bytesL Sx.notInt Sx.typeAt Sx.argAt Sx.den Go.undef Go.Value.cells Go.Value.oneCell' Sx.Con.pure Sx.Con.some Sx.Con.read Sx.Con.make Sx.Con.ext Sx.Con.rel Sx.Con.extS Sx.Con.draw Sx.Con.step Sx.C.one Sx.Draws.steps






theorem sResetC_c (m : M) (k n p : Int) (hpre : MOk m) (w : World) : Calls Tryz.prog 199 #[.agg (cells m), .agg #[.int .i64 k, .int .i64 n, .int .i64 p]] w fun e w' => e = .returned (.agg (cells (resetM m k n))) ∧ RowKit.Below w.heap.size w w' := by
  refine (plain_of_vcs ⟨[l5AtC, sMemPutC], []⟩ hmx Tryz.func199 rfl (by kernel_rfl) (args := [.agg (cells m), .agg #[.int .i64 k, .int .i64 n, .int .i64 p]]) (by simp [Tryz.ntmps199]) w (· = .agg (cells (resetM m k n))) 400 ?_).mono fun e w' ⟨v, h1, h2, h3⟩ => ⟨h2 ▸ h1, h3⟩
  have hb := (place_bd k n).1
  obtain ⟨l1, l2, l3, l4, l5, l6, l7, l8, l9, l10⟩ := place_lt n
  by_cases h7 : k = 7
  · subst h7
    have hj : (place 7 n).toNat < 16 := by omega
    have s2 := fun m b x => set_TT m b x _ hj
    have ob1 : 5 + (place 7 n).toNat * 2 ≤ 134 := by omega
    simp (maxSteps := 4000000) -dsimp [-Y1, -Array.all_eq_true, -Y3, -Y4, and_assoc, Y5, Tryz.f199, l5AtC, sMemPutC, -Sx.splice_two, resetM, hb, l7, s2, ob1]
  by_cases h8 : k = 8
  · subst h8
    have hj : (place 8 n).toNat < 16 := by omega
    have g1 := fun m => get_C1 m _ hj
    have s2 := fun m b c x => set_CC m b c x _ hj
    have ob1 : 37 + (place 8 n).toNat * 3 ≤ 133 := by omega
    simp (maxSteps := 4000000) -dsimp [-Y1, -Array.all_eq_true, -Y3, -Y4, and_assoc, Y5, Tryz.f199, l5AtC, sMemPutC, -Sx.splice_two, resetM, hb, l8, g1, s2, ob1]
  by_cases h5 : k = 5
  · simp (maxSteps := 4000000) -dsimp [-Y1, -Array.all_eq_true, -Y3, -Y4, and_assoc, Y5, Tryz.f199, l5AtC, sMemPutC, resetM, h7, h8, hpre, h5]
  · simp (maxSteps := 4000000) -dsimp [-Y1, -Array.all_eq_true, -Y3, -Y4, and_assoc, Y5, Tryz.f199, l5AtC, sMemPutC, resetM, h7, h8, hpre, h5]
def sResetC : Con Tryz.prog := Con.pure 199 Tryz.call199 (fun (i : ((M) × (Int) × (Int) × (Int))) => match i with | (m, k, n, p) => [.agg (cells m), .agg #[.int .i64 k, .int .i64 n, .int .i64 p]]) (fun (i : ((M) × (Int) × (Int) × (Int))) => match i with | (m, k, n, p) => MOk m) (fun (i : ((M) × (Int) × (Int) × (Int))) => match i with | (m, k, n, p) => .agg (cells (resetM m k n))) fun i w hp => sResetC_c i.1 i.2.1 i.2.2.1 i.2.2.2 hp w
theorem sStepC_c (m : M) (k n p : Int) (hpre : MOk m) (w : World) : Calls Tryz.prog 200 #[.agg (cells m), .agg #[.int .i64 k, .int .i64 n, .int .i64 p]] w fun e w' => e = .returned (.agg (cells (if k = 4 then stepM m n else m))) ∧ RowKit.Below w.heap.size w w' := by
  refine (plain_of_vcs ⟨[l5AtC, sMemPutC], []⟩ hmx Tryz.func200 rfl (by kernel_rfl) (args := [.agg (cells m), .agg #[.int .i64 k, .int .i64 n, .int .i64 p]]) (by simp [Tryz.ntmps200]) w (· = .agg (cells (if k = 4 then stepM m n else m))) 400 ?_).mono fun e w' ⟨v, h1, h2, h3⟩ => ⟨h2 ▸ h1, h3⟩
  by_cases h4 : k = 4
  · subst h4
    have hp4 := (place_bd 4 n).1
    have hl4 := (place_lt n).2.2.2.1
    obtain ⟨g, hg⟩ : ∃ g : Nat, (g : Int) = place 4 n / 8 := ⟨(place 4 n / 8).toNat, by omega⟩
    have hg1 : g ≤ 1 := by omega
    have e1 : IntKind.i64.wrap (IntKind.i64.wrap ((place 4 n).tdiv 8) * 8) = 8 * (g : Int) := by
      rw [Int.tdiv_eq_ediv_of_nonneg hp4, wrap_i64 (x := place 4 n / 8) (by omega) (by omega), wrap_i64 (by omega) (by omega)]; omega
    simp (maxSteps := 4000000) -dsimp [-Y1, -Array.all_eq_true, -Y3, -Y4, and_assoc, Y5, Tryz.f200, l5AtC, sMemPutC, e1]
    intro b b1 b2
    refine loop_inv (σ := ⟨[l5AtC, sMemPutC], []⟩) hmx (by kernel_rfl) (fun q cx tm mem => cx = ⟨w, [], w, []⟩ ∧ ∃ i : Nat, i ≤ 8 ∧ q = 8 - i ∧ mem = [⟨b, cellC { m with S := putN m.S g i }, 38⟩, ⟨b1, [.v (.int .i64 4), .v (.int .i64 n), .v (.int .i64 p)], 161⟩, ⟨b2, cellC zeroM, 38⟩] ∧ Sx.look tm 6 = .v (.int .i64 i) ∧ Sx.look tm 5 = .v (.int .i64 (8 * (g : Int))) ∧ Sx.look tm 2 = .p 0 b 0 ∧ Sx.look tm 3 = .p 1 b1 0 ∧ Sx.look tm 4 = .p 2 b2 0)
      8 ⟨rfl, 0, by omega, rfl, rfl, by simp [Sx.look], by simp [Sx.look], by simp [Sx.look], by simp [Sx.look], by simp [Sx.look]⟩ ?_
    rintro q cx tm mem ⟨rfl, i, hi, rfl, rfl, h6, h5, h2, h3, h4'⟩
    refine ⟨300, ?_⟩
    have hbd := putN_bd hpre.S hg1 i hi
    have hok := setS_ok hpre hbd
    by_cases hlt : i < 8
    · have e2 : IntKind.i64.wrap (8 * (g : Int) + i) = 8 * (g : Int) + i := wrap_i64 (by omega) (by omega)
      have e3 : place 4 (8 * (g : Int) + i) = 8 * (g : Int) + i := by
        have : ring 4 = 16 := by decide
        unfold place; rw [this]; simp; omega
      have e4 : (8 * (g : Int) + i).toNat = 8 * g + i := by omega
      have e5 : putBit (putN m.S g i) (8 * g + i) false = putN m.S g (i + 1) := rfl
      have hlt' : (i : Int) < 8 := by omega
      simp (maxSteps := 4000000) -dsimp [-Y1, -Array.all_eq_true, -Y3, -Y4, and_assoc, Y5, Tryz.f200, l5AtC, sMemPutC, h6, h5, h2, h3, h4', hlt', e2, e3, e4, e5, hok, memPut, i_succ (i := i) (by omega)]
      exact ⟨3, 8 - (i + 1), by omega, i + 1, by omega, rfl, rfl, by omega⟩
    · obtain rfl : i = 8 := by omega
      have e6 := putN_clr hpre.S hg1
      simp (maxSteps := 4000000) -dsimp [-Y1, -Array.all_eq_true, -Y3, -Y4, and_assoc, Y5, Tryz.f200, l5AtC, sMemPutC, h6, h5, h2, h3, h4', hok]
      rw [e6, hg]
      rfl
  · simp (maxSteps := 4000000) -dsimp [-Y1, -Array.all_eq_true, -Y3, -Y4, and_assoc, Y5, Tryz.f200, l5AtC, sMemPutC, h4]
def sStepC : Con Tryz.prog := Con.pure 200 Tryz.call200 (fun (i : ((M) × (Int) × (Int) × (Int))) => match i with | (m, k, n, p) => [.agg (cells m), .agg #[.int .i64 k, .int .i64 n, .int .i64 p]]) (fun (i : ((M) × (Int) × (Int) × (Int))) => match i with | (m, k, n, p) => MOk m) (fun (i : ((M) × (Int) × (Int) × (Int))) => match i with | (m, k, n, p) => .agg (cells (if k = 4 then stepM m n else m))) fun i w hp => sStepC_c i.1 i.2.1 i.2.2.1 i.2.2.2 hp w






theorem sRealCalcC_c (op : Int) (a b : Nat) (w : World) : Calls Tryz.prog 235 #[.int .i64 op, .float .f64 a, .float .f64 b] w fun e w' => ∃ v, e = .returned v ∧ (fun v => ∃ r, v = .float .f64 r ∧ sameF r (realCalcF op a b) ∧ r < 18446744073709551616) v ∧ RowKit.Below w.heap.size w w' := by
  refine plain_of_vcs ⟨[l3NanC], []⟩ hmx Tryz.func235 rfl (by kernel_rfl) (args := [.int .i64 op, .float .f64 a, .float .f64 b]) (by simp [Tryz.ntmps235]) w (fun v => ∃ r, v = .float .f64 r ∧ sameF r (realCalcF op a b) ∧ r < 18446744073709551616) 400 ?_
  by_cases h1 : op = 1
  · subst h1
    simp (maxSteps := 4000000) -dsimp [-Y1, -Array.all_eq_true, -Y3, -Y4, and_assoc, Y5, Tryz.f235, l3NanC, realCalcF, fmt64x]
    exact fun r hr => ⟨fRes_F hr, arith_lt.1 hr⟩
  by_cases h2 : op = 2
  · subst h2
    simp (maxSteps := 4000000) -dsimp [-Y1, -Array.all_eq_true, -Y3, -Y4, and_assoc, Y5, Tryz.f235, l3NanC, realCalcF, fmt64x]
    exact fun r hr => ⟨fRes_F hr, arith_lt.2.1 hr⟩
  by_cases h3 : op = 3
  · subst h3
    simp (maxSteps := 4000000) -dsimp [-Y1, -Array.all_eq_true, -Y3, -Y4, and_assoc, Y5, Tryz.f235, l3NanC, realCalcF, fmt64x]
    exact fun r hr => ⟨fRes_F hr, arith_lt.2.2.1 hr⟩
  by_cases h4 : op = 4
  · subst h4
    simp (maxSteps := 4000000) -dsimp [-Y1, -Array.all_eq_true, -Y3, -Y4, and_assoc, Y5, Tryz.f235, l3NanC, realCalcF, fmt64x]
    exact fun r hr => ⟨fRes_F hr, arith_lt.2.2.2 hr⟩
  · simp (maxSteps := 4000000) -dsimp [-Y1, -Array.all_eq_true, -Y3, -Y4, and_assoc, Y5, Tryz.f235, l3NanC, realCalcF, h1, h2, h3, h4]
    rintro v r rfl hn hl
    exact ⟨r, rfl, sameF_nan hn nan_q.1, hl⟩
def sRealCalcC : Con Tryz.prog := Con.some 235 Tryz.call235 (fun (i : ((Int) × (Nat) × (Nat))) => match i with | (op, a, b) => [.int .i64 op, .float .f64 a, .float .f64 b]) (fun (i : ((Int) × (Nat) × (Nat))) => match i with | (op, a, b) => True) (fun (i : ((Int) × (Nat) × (Nat))) => match i with | (op, a, b) => fun v => ∃ r, v = .float .f64 r ∧ sameF r (realCalcF op a b) ∧ r < 18446744073709551616) fun i w _ => sRealCalcC_c i.1 i.2.1 i.2.2 w
theorem sWholeCalcC_c (op a b : Int) (hpre : (-32768 ≤ a ∧ a ≤ 32767) ∧ (-32768 ≤ b ∧ b ≤ 32767)) (w : World) : Calls Tryz.prog 236 #[.int .i64 op, .int .i16 a, .int .i16 b] w fun e w' => e = .returned (.tuple #[.int .i16 (wholeCalc op a b).1, .bool (wholeCalc op a b).2]) ∧ RowKit.Below w.heap.size w w' := by
  refine (plain_of_vcs ⟨[l3WrapC], []⟩ hmx Tryz.func236 rfl (by kernel_rfl) (args := [.int .i64 op, .int .i16 a, .int .i16 b]) (by simp [Tryz.ntmps236]) w (· = .tuple #[.int .i16 (wholeCalc op a b).1, .bool (wholeCalc op a b).2]) 400 ?_).mono fun e w' ⟨v, h1, h2, h3⟩ => ⟨h2 ▸ h1, h3⟩
  obtain ⟨ha, hb⟩ := hpre
  have e1 : IntKind.i64.wrap a = a := wrap_i64 (by omega) (by omega)
  have e2 : IntKind.i64.wrap b = b := wrap_i64 (by omega) (by omega)
  have e3 : IntKind.i64.wrap (a + b) = a + b := wrap_i64 (by omega) (by omega)
  have e4 : IntKind.i64.wrap (a - b) = a - b := wrap_i64 (by omega) (by omega)
  have mb := mul_bd ha hb
  have e5 : IntKind.i64.wrap (a * b) = a * b := wrap_i64 (by omega) (by omega)
  by_cases h1 : op = 1
  · subst h1
    simp (maxSteps := 4000000) -dsimp [-Y1, -Array.all_eq_true, -Y3, -Y4, and_assoc, Y5, Tryz.f236, l3WrapC, wholeCalc, e1, e2, e3]
  by_cases h2 : op = 2
  · subst h2
    simp (maxSteps := 4000000) -dsimp [-Y1, -Array.all_eq_true, -Y3, -Y4, and_assoc, Y5, Tryz.f236, l3WrapC, wholeCalc, e1, e2, e4]
  by_cases h3 : op = 3
  · subst h3
    simp (maxSteps := 4000000) -dsimp [-Y1, -Array.all_eq_true, -Y3, -Y4, and_assoc, Y5, Tryz.f236, l3WrapC, wholeCalc, e1, e2, e5]
  by_cases hz : b = 0
  · have e0 : IntKind.i64.wrap 0 = 0 := by decide
    simp (maxSteps := 4000000) -dsimp [-Y1, -Array.all_eq_true, -Y3, -Y4, and_assoc, Y5, Tryz.f236, l3WrapC, wholeCalc, h1, h2, h3, hz, e1, e2, e0]
  have tb := tdiv_bd ha hz
  have e6 : IntKind.i64.wrap (a.tdiv b) = a.tdiv b := wrap_i64 (by omega) (by omega)
  have rb := tmod_bd (b := b) ha
  have e7 : IntKind.i16.wrap (a.tmod b) = a.tmod b := wrap_i16 (by omega) (by omega)
  by_cases h4 : op = 4
  · subst h4
    simp (maxSteps := 4000000) -dsimp [-Y1, -Array.all_eq_true, -Y3, -Y4, and_assoc, Y5, Tryz.f236, l3WrapC, wholeCalc, hz, e1, e2, e6]
  by_cases h5 : op = 5
  · subst h5
    simp (maxSteps := 4000000) -dsimp [-Y1, -Array.all_eq_true, -Y3, -Y4, and_assoc, Y5, Tryz.f236, l3WrapC, wholeCalc, hz, e1, e2, e7]
  · simp (maxSteps := 4000000) -dsimp [-Y1, -Array.all_eq_true, -Y3, -Y4, and_assoc, Y5, Tryz.f236, l3WrapC, wholeCalc, h1, h2, h3, hz, h4, h5, e1, e2]
def sWholeCalcC : Con Tryz.prog := Con.pure 236 Tryz.call236 (fun (i : ((Int) × (Int) × (Int))) => match i with | (op, a, b) => [.int .i64 op, .int .i16 a, .int .i16 b]) (fun (i : ((Int) × (Int) × (Int))) => match i with | (op, a, b) => (-32768 ≤ a ∧ a ≤ 32767) ∧ (-32768 ≤ b ∧ b ≤ 32767)) (fun (i : ((Int) × (Int) × (Int))) => match i with | (op, a, b) => .tuple #[.int .i16 (wholeCalc op a b).1, .bool (wholeCalc op a b).2]) fun i w hp => sWholeCalcC_c i.1 i.2.1 i.2.2 hp w
theorem sCalcC_c (m : M) (op : Int) (o : Option Addr) (cap : Nat) (xs : List Dev) (w : World) (hpre : RdD (factF ⟨w, [], w, []⟩) o xs ∧ MOk m ∧ 30 ≤ op ∧ op ≤ 37) : Calls Tryz.prog 201 #[.agg (cells m), .agg #[.int .i64 op, .slice o xs.length cap]] w fun e w' => ∃ v, e = .returned v ∧ (fun v => IsMem v (whenM m op (argD xs 0) (argD xs 1) (argD xs 2))) v ∧ RowKit.Below w.heap.size w w' := by
  refine plain_of_vcs ⟨[sArgC, sMemWholeC, sMemRealC, sMemPutRealC, sMemPutWholeC, sRealWholeC, sRealCalcC, sWholeCalcC], [(14, [(0, false), (1, false), (2, false), (3, false), (4, false), (0, true), (1, true), (5, false), (6, false)]), (18, [(0, false), (1, false), (2, false), (3, false), (4, false), (6, false), (7, false), (5, false), (0, true), (1, true), (6, true), (7, true), (8, false), (0, true), (1, true), (9, false), (0, true), (1, true), (10, false), (11, false)])]⟩ hmx Tryz.func201 rfl (by kernel_rfl) (args := [.agg (cells m), .agg #[.int .i64 op, .slice o xs.length cap]]) (by simp [Tryz.ntmps201]) w (fun v => IsMem v (whenM m op (argD xs 0) (argD xs 1) (argD xs 2))) 400 ?_
  obtain ⟨h, hm, ho1, ho2⟩ := hpre
  have a0 := fun d mem K => sArgC_rw (op := op) (cap := cap) (d := d) (cx := ⟨w, [], w, []⟩) (mem := mem) (K := K) (j := 0) ⟨h.mono (sub_now _ _), by decide⟩
  have a1 := fun d mem K => sArgC_rw (op := op) (cap := cap) (d := d) (cx := ⟨w, [], w, []⟩) (mem := mem) (K := K) (j := 1) ⟨h.mono (sub_now _ _), by decide⟩
  have a2 := fun d mem K => sArgC_rw (op := op) (cap := cap) (d := d) (cx := ⟨w, [], w, []⟩) (mem := mem) (K := K) (j := 2) ⟨h.mono (sub_now _ _), by decide⟩
  have t2 : Int.toNat 2 = 2 := rfl
  simp only [Int.toNat_zero, Int.toNat_one, t2] at a0 a1 a2
  generalize argD xs 0 = a at *
  generalize argD xs 1 = b at *
  generalize argD xs 2 = c at *
  have hw := fun k n => memWhole_bd (k := k) (n := n) hm
  have w1 : IntKind.i64.wrap (op - 31) = op - 31 := wrap_i64 (by omega) (by omega)
  have w2 : IntKind.i64.wrap (op - 31 + 1) = op - 30 := by rw [wrap_i64 (by omega) (by omega)]; omega
  by_cases h36 : op = 36
  · subst h36
    have hb := hw b.k b.n
    simp (maxSteps := 4000000) -dsimp [-Y1, -Array.all_eq_true, -Y3, -Y4, and_assoc, Y5, Tryz.f201, sArgC, sMemWholeC, sMemRealC, sMemPutRealC, sMemPutWholeC, sRealWholeC, sRealCalcC, sWholeCalcC, hm, a0, a1, a2, w1, w2, whenM]
    exact isMem_self (MOk_putReal hm (nearest_lt (by omega)))
  by_cases h37 : op = 37
  · subst h37
    simp (maxSteps := 4000000) -dsimp [-Y1, -Array.all_eq_true, -Y3, -Y4, and_assoc, Y5, Tryz.f201, sArgC, sMemWholeC, sMemRealC, sMemPutRealC, sMemPutWholeC, sRealWholeC, sRealCalcC, sWholeCalcC, hm, a0, a1, a2, w1, w2, whenM]
    rintro v x rfl hx
    have hs := realWhole_same (memRealR_F hm hx)
    have rb := realWhole_bd (memRealF m b.k b.n b.p)
    refine ⟨x, rfl, ?_⟩
    rw [hs]
    exact ⟨fun hr => by rw [if_pos hr]; exact isMem_self (MOk_putWhole hm (i16_mm rb)), fun hr => by rw [if_neg (by simp [hr])]; exact isMem_self (fault_ok hm)⟩
  by_cases h30 : op = 30
  · subst h30
    by_cases h10 : a.k = 10
    · simp (maxSteps := 4000000) -dsimp [-Y1, -Array.all_eq_true, -Y3, -Y4, and_assoc, Y5, Tryz.f201, sArgC, sMemWholeC, sMemRealC, sMemPutRealC, sMemPutWholeC, sRealWholeC, sRealCalcC, sWholeCalcC, hm, a0, a1, a2, w1, w2, whenM, h10]
      rintro v x rfl hx
      exact ⟨x, rfl, _, rfl, putReal_same (memRealR_F hm hx), MOk_putReal hm (memRealR_same hm hx hx).2⟩
    · simp (maxSteps := 4000000) -dsimp [-Y1, -Array.all_eq_true, -Y3, -Y4, and_assoc, Y5, Tryz.f201, sArgC, sMemWholeC, sMemRealC, sMemPutRealC, sMemPutWholeC, sRealWholeC, sRealCalcC, sWholeCalcC, hm, a0, a1, a2, w1, w2, whenM, h10]
      exact isMem_self (MOk_putWhole hm (i16_mm (hw _ _)))
  have h31 : 31 ≤ op ∧ op ≤ 35 := by omega
  have n22 : ¬ op = 22 := by omega
  have n23 : ¬ op = 23 := by omega
  have n25 : ¬ op = 25 := by omega
  by_cases h10 : a.k = 10
  · simp (maxSteps := 4000000) -dsimp [-Y1, -Array.all_eq_true, -Y3, -Y4, and_assoc, Y5, Tryz.f201, sArgC, sMemWholeC, sMemRealC, sMemPutRealC, sMemPutWholeC, sRealWholeC, sRealCalcC, sWholeCalcC, hm, a0, a1, a2, w1, w2, whenM, h10, h36, h37, h30, h31, n22, n23, n25, calcM]
    rintro v x rfl hx v' y rfl hy
    refine ⟨x, rfl, y, rfl, ?_⟩
    rintro v r rfl hs hl
    refine ⟨r, rfl, _, rfl, putReal_same ?_, MOk_putReal hm hl⟩
    rw [← realCalcF_same (memRealR_F hm hx) (memRealR_F hm hy)]
    exact hs
  · have hb := hw b.k b.n
    have hc := hw c.k c.n
    have bd := fun op => wholeCalc_bd (op := op) (b := memWhole m c.k c.n) hb
    cases hr : (wholeCalc (op - 30) (memWhole m b.k b.n) (memWhole m c.k c.n)).2
    · simp (maxSteps := 4000000) -dsimp [-Y1, -Array.all_eq_true, -Y3, -Y4, and_assoc, Y5, Tryz.f201, sArgC, sMemWholeC, sMemRealC, sMemPutRealC, sMemPutWholeC, sRealWholeC, sRealCalcC, sWholeCalcC, hm, a0, a1, a2, w1, w2, whenM, h10, h36, h37, h30, h31, n22, n23, n25, calcM, hb, hc, hr]
      exact isMem_self (fault_ok hm)
    · simp (maxSteps := 4000000) -dsimp [-Y1, -Array.all_eq_true, -Y3, -Y4, and_assoc, Y5, Tryz.f201, sArgC, sMemWholeC, sMemRealC, sMemPutRealC, sMemPutWholeC, sRealWholeC, sRealCalcC, sWholeCalcC, hm, a0, a1, a2, w1, w2, whenM, h10, h36, h37, h30, h31, n22, n23, n25, calcM, hb, hc, hr]
      exact isMem_self (MOk_putWhole hm (i16_mm (bd _)))
def sCalcC_S : Rels Tryz.prog 201 where
  ι := ((M) × (Int) × (Option Addr) × (Nat) × (List Dev))
  A := fun (i : ((M) × (Int) × (Option Addr) × (Nat) × (List Dev))) => match i with | (m, op, o, cap, xs) => [.agg (cells m), .agg #[.int .i64 op, .slice o xs.length cap]]
  pre := fun (i : ((M) × (Int) × (Option Addr) × (Nat) × (List Dev))) (F : Facts) => match i with | (m, op, o, cap, xs) => RdD F o xs ∧ MOk m ∧ 30 ≤ op ∧ op ≤ 37
  post := fun (i : ((M) × (Int) × (Option Addr) × (Nat) × (List Dev))) => match i with | (m, op, o, cap, xs) => fun v => IsMem v (whenM m op (argD xs 0) (argD xs 1) (argD xs 2))
  mono := by
    intro i F G hs h
    first | exact h | exact h.mono hs | exact ⟨h.1.mono hs, h.2⟩ | exact ⟨h.1.mono hs, h.2.1.mono hs, h.2.2⟩ | exact ⟨h.1.mono hs, h.2.1.mono hs⟩
  enter := Tryz.call201
  h := fun i w hp => sCalcC_c i.1 i.2.1 i.2.2.1 i.2.2.2.1 i.2.2.2.2 w (by rw [factF_init]; exact hp)
def sCalcC : Con Tryz.prog := Con.rel sCalcC_S







theorem sWhenC_c (m : M) (op : Int) (o : Option Addr) (cap : Nat) (xs : List Dev) (w : World) (hpre : RdD (factF ⟨w, [], w, []⟩) o xs ∧ MOk m) : Calls Tryz.prog 161 #[.agg (cells m), .agg #[.int .i64 op, .slice o xs.length cap]] w fun e w' => ∃ v, e = .returned v ∧ (fun v => IsMem v (whenM m op (argD xs 0) (argD xs 1) (argD xs 2))) v ∧ RowKit.Below w.heap.size w w' := by
  refine plain_of_vcs ⟨[sArgC, sNotEC, sResetC, sStepC, sCalcC], []⟩ hmx Tryz.func161 rfl (by kernel_rfl) (args := [.agg (cells m), .agg #[.int .i64 op, .slice o xs.length cap]]) (by simp [Tryz.ntmps161]) w (fun v => IsMem v (whenM m op (argD xs 0) (argD xs 1) (argD xs 2))) 400 ?_
  obtain ⟨h, hm⟩ := hpre
  have a0 := fun d mem K => sArgC_rw (op := op) (cap := cap) (d := d) (cx := ⟨w, [], w, []⟩) (mem := mem) (K := K) (j := 0) ⟨h.mono (sub_now _ _), by decide⟩
  have a1 := fun d mem K => sArgC_rw (op := op) (cap := cap) (d := d) (cx := ⟨w, [], w, []⟩) (mem := mem) (K := K) (j := 1) ⟨h.mono (sub_now _ _), by decide⟩
  simp only [Int.toNat_zero, Int.toNat_one] at a0 a1
  by_cases h22 : op = 22
  · subst h22
    simp (maxSteps := 4000000) -dsimp [-Y1, -Array.all_eq_true, -Y3, -Y4, and_assoc, Y5, Tryz.f161, sArgC, sNotEC, sResetC, sStepC, sCalcC, hm, a0, a1, whenM]
    exact isMem_self (putBM_ok hm)
  by_cases h23 : op = 23
  · subst h23
    simp (maxSteps := 4000000) -dsimp [-Y1, -Array.all_eq_true, -Y3, -Y4, and_assoc, Y5, Tryz.f161, sArgC, sNotEC, sResetC, sStepC, sCalcC, hm, a0, a1, whenM]
    exact isMem_self (resetM_ok hm)
  by_cases h25 : op = 25
  · subst h25
    simp (maxSteps := 4000000) -dsimp [-Y1, -Array.all_eq_true, -Y3, -Y4, and_assoc, Y5, Tryz.f161, sArgC, sNotEC, sResetC, sStepC, sCalcC, hm, a0, a1, whenM]
    refine isMem_self ?_
    split
    · exact stepM_ok hm
    · exact hm
  by_cases h30 : 30 ≤ op
  · by_cases h37 : op ≤ 37
    · simp (maxSteps := 4000000) -dsimp [-Y1, -Array.all_eq_true, -Y3, -Y4, and_assoc, Y5, Tryz.f161, sArgC, sNotEC, sResetC, sStepC, sCalcC, hm, a0, a1, h22, h23, h25, h30, h37]
      intro b b1 b2
      refine ⟨(m, op, o, cap, xs), rfl, ⟨h.mono (sub_now _ _), hm, h30, h37⟩, fun v hv => ?_⟩
      obtain ⟨m', rfl, s1, s2⟩ := hv.ex
      simp (maxSteps := 4000000) -dsimp [-Y1, -Array.all_eq_true, -Y3, -Y4, and_assoc, Y5, Tryz.f161, sArgC, sNotEC, sResetC, sStepC, sCalcC]
      exact ⟨_, rfl, s1, s2⟩
    · have n31 : ¬ (31 ≤ op ∧ op ≤ 35) := by omega
      have n30 : ¬ op = 30 := by omega
      have n36 : ¬ op = 36 := by omega
      have n37 : ¬ op = 37 := by omega
      simp (maxSteps := 4000000) -dsimp [-Y1, -Array.all_eq_true, -Y3, -Y4, and_assoc, Y5, Tryz.f161, sArgC, sNotEC, sResetC, sStepC, sCalcC, hm, a0, a1, h22, h23, h25, h30, h37, whenM, n31, n30, n36, n37]
      first | exact isMem_self hm | exact fun _ => isMem_self hm | exact fun _ _ => isMem_self hm
  · have n31 : ¬ (31 ≤ op ∧ op ≤ 35) := by omega
    have n30 : ¬ op = 30 := by omega
    have n36 : ¬ op = 36 := by omega
    have n37 : ¬ op = 37 := by omega
    simp (maxSteps := 4000000) -dsimp [-Y1, -Array.all_eq_true, -Y3, -Y4, and_assoc, Y5, Tryz.f161, sArgC, sNotEC, sResetC, sStepC, sCalcC, hm, a0, a1, h22, h23, h25, h30, whenM, n31, n30, n36, n37]
    first | exact isMem_self hm | exact fun _ => isMem_self hm | exact fun _ _ => isMem_self hm
def sWhenC_S : Rels Tryz.prog 161 where
  ι := ((M) × (Int) × (Option Addr) × (Nat) × (List Dev))
  A := fun (i : ((M) × (Int) × (Option Addr) × (Nat) × (List Dev))) => match i with | (m, op, o, cap, xs) => [.agg (cells m), .agg #[.int .i64 op, .slice o xs.length cap]]
  pre := fun (i : ((M) × (Int) × (Option Addr) × (Nat) × (List Dev))) (F : Facts) => match i with | (m, op, o, cap, xs) => RdD F o xs ∧ MOk m
  post := fun (i : ((M) × (Int) × (Option Addr) × (Nat) × (List Dev))) => match i with | (m, op, o, cap, xs) => fun v => IsMem v (whenM m op (argD xs 0) (argD xs 1) (argD xs 2))
  mono := by
    intro i F G hs h
    first | exact h | exact h.mono hs | exact ⟨h.1.mono hs, h.2⟩ | exact ⟨h.1.mono hs, h.2.1.mono hs, h.2.2⟩ | exact ⟨h.1.mono hs, h.2.1.mono hs⟩
  enter := Tryz.call161
  h := fun i w hp => sWhenC_c i.1 i.2.1 i.2.2.1 i.2.2.2.1 i.2.2.2.2 w (by rw [factF_init]; exact hp)
def sWhenC : Con Tryz.prog := Con.rel sWhenC_S
theorem sActDoC_c (m : M) (op : Int) (o : Option Addr) (cap : Nat) (xs : List Dev) (cur : Bool) (dt : Int) (w : World) (hpre : RdD (factF ⟨w, [], w, []⟩) o xs ∧ MOk m ∧ 0 ≤ dt ∧ dt < 65536) : Calls Tryz.prog 88 #[.agg (cells m), .agg #[.int .i64 op, .slice o xs.length cap], .bool cur, .int .u16 dt] w fun e w' => ∃ v, e = .returned v ∧ (fun r => IsMem r (doM m op (argD xs 0) (argD xs 1) (argD xs 2) cur dt)) v ∧ RowKit.Below w.heap.size w w' := by
  refine plain_of_vcs ⟨[sArgC, sNotEC, sMemBitC, sMemPutC, sTimeC, sCountC, sWhenC], []⟩ hmx Tryz.func88 rfl (by kernel_rfl) (args := [.agg (cells m), .agg #[.int .i64 op, .slice o xs.length cap], .bool cur, .int .u16 dt]) (by simp [Tryz.ntmps88]) w (fun r => IsMem r (doM m op (argD xs 0) (argD xs 1) (argD xs 2) cur dt)) 400 ?_
  obtain ⟨h, hm, hd1, hd2⟩ := hpre
  have a0 := fun d mem K => sArgC_rw (op := op) (cap := cap) (d := d) (cx := ⟨w, [], w, []⟩) (mem := mem) (K := K) (j := 0) ⟨h.mono (sub_now _ _), by decide⟩
  have a1 := fun d mem K => sArgC_rw (op := op) (cap := cap) (d := d) (cx := ⟨w, [], w, []⟩) (mem := mem) (K := K) (j := 1) ⟨h.mono (sub_now _ _), by decide⟩
  simp only [Int.toNat_zero, Int.toNat_one] at a0 a1
  have pb := preset_bd (b := argD xs 1) hm
  by_cases h21 : op = 21
  · subst h21
    simp (maxSteps := 4000000) -dsimp [-Y1, -Array.all_eq_true, -Y3, -Y4, and_assoc, Y5, Tryz.f88, sArgC, sNotEC, sMemBitC, sMemPutC, sTimeC, sCountC, sWhenC, hm, a0, a1, doM]
    exact isMem_self (putBM_ok hm)
  by_cases h24 : op = 24
  · subst h24
    have hk1 := fun v => putBM_ok (a := argD xs 0) (v := v) hm
    have eb : ∀ v, putBM m ⟨(argD xs 0).k, (argD xs 0).n, (argD xs 0).p⟩ v = putBM m (argD xs 0) v := fun _ => rfl
    by_cases h5 : (argD xs 1).k = 5
    · cases cur
      · simp (maxSteps := 4000000) -dsimp [-Y1, -Array.all_eq_true, -Y3, -Y4, and_assoc, Y5, Tryz.f88, sArgC, sNotEC, sMemBitC, sMemPutC, sTimeC, sCountC, sWhenC, hm, a0, a1, doM, h5, eb, hk1, keepM]
        exact isMem_self (memPut_ok (hk1 _))
      · cases hmb : memBit m 5 (argD xs 1).n
        · simp (maxSteps := 4000000) -dsimp [-Y1, -Array.all_eq_true, -Y3, -Y4, and_assoc, Y5, Tryz.f88, sArgC, sNotEC, sMemBitC, sMemPutC, sTimeC, sCountC, sWhenC, hm, a0, a1, doM, h5, eb, hk1, hmb, keepM, wasB]
          exact isMem_self (memPut_ok (hk1 _))
        · simp (maxSteps := 4000000) -dsimp [-Y1, -Array.all_eq_true, -Y3, -Y4, and_assoc, Y5, Tryz.f88, sArgC, sNotEC, sMemBitC, sMemPutC, sTimeC, sCountC, sWhenC, hm, a0, a1, doM, h5, eb, hk1, hmb, keepM, wasB]
          exact isMem_self (memPut_ok (hk1 _))
    · cases cur
      · simp (maxSteps := 4000000) -dsimp [-Y1, -Array.all_eq_true, -Y3, -Y4, and_assoc, Y5, Tryz.f88, sArgC, sNotEC, sMemBitC, sMemPutC, sTimeC, sCountC, sWhenC, hm, a0, a1, doM, h5, eb, hk1, keepM, wasB]
        exact isMem_self (hk1 _)
      · simp (maxSteps := 4000000) -dsimp [-Y1, -Array.all_eq_true, -Y3, -Y4, and_assoc, Y5, Tryz.f88, sArgC, sNotEC, sMemBitC, sMemPutC, sTimeC, sCountC, sWhenC, hm, a0, a1, doM, h5, eb, hk1, keepM, wasB]
        exact isMem_self (hk1 _)
  by_cases h29 : op = 29
  · subst h29
    simp (maxSteps := 4000000) -dsimp [-Y1, -Array.all_eq_true, -Y3, -Y4, and_assoc, Y5, Tryz.f88, sArgC, sNotEC, sMemBitC, sMemPutC, sTimeC, sCountC, sWhenC, hm, a0, a1, doM]
    intro b b1 b2
    refine (sCountC_rw ⟨h.mono (sub_now _ _), hm⟩).mpr ?_
    simp (maxSteps := 4000000) -dsimp [-Y1, -Array.all_eq_true, -Y3, -Y4, and_assoc, Y5, Tryz.f88, sArgC, sNotEC, sMemBitC, sMemPutC, sTimeC, sCountC, sWhenC]
    exact isMem_self (counterM_ok hm)
  by_cases h26 : op = 26 ∨ op = 27 ∨ op = 28
  · have hsv := h26
    rcases h26 with rfl | rfl | rfl
    all_goals
      simp (maxSteps := 4000000) -dsimp [-Y1, -Array.all_eq_true, -Y3, -Y4, and_assoc, Y5, Tryz.f88, sArgC, sNotEC, sMemBitC, sMemPutC, sTimeC, sCountC, sWhenC, hm, a0, a1, doM]
      intro b b1 b2
      refine (sTimeC_rw ⟨h.mono (sub_now _ _), hm, hd1, hd2, hsv⟩).mpr ?_
      simp (maxSteps := 4000000) -dsimp [-Y1, -Array.all_eq_true, -Y3, -Y4, and_assoc, Y5, Tryz.f88, sArgC, sNotEC, sMemBitC, sMemPutC, sTimeC, sCountC, sWhenC]
      exact isMem_self (timerM_ok hm hd1 pb)
  have n26 : ¬ op = 26 := fun h => h26 (Or.inl h)
  have n27 : ¬ op = 27 := fun h => h26 (Or.inr (Or.inl h))
  have n28 : ¬ op = 28 := fun h => h26 (Or.inr (Or.inr h))
  clear h26
  cases cur
  · simp (maxSteps := 4000000) -dsimp [-Y1, -Array.all_eq_true, -Y3, -Y4, and_assoc, Y5, Tryz.f88, sArgC, sNotEC, sMemBitC, sMemPutC, sTimeC, sCountC, sWhenC, hm, a0, a1, doM, h21, h24, h29, n26, n27, n28]
    exact isMem_self hm
  · simp (maxSteps := 4000000) -dsimp [-Y1, -Array.all_eq_true, -Y3, -Y4, and_assoc, Y5, Tryz.f88, sArgC, sNotEC, sMemBitC, sMemPutC, sTimeC, sCountC, sWhenC, hm, a0, a1, doM, h21, h24, h29, n26, n27, n28]
    intro b b1 b2
    refine ⟨(m, op, o, cap, xs), rfl, ⟨h.mono (sub_now _ _), hm⟩, fun v hv => ?_⟩
    obtain ⟨m', rfl, s1, s2⟩ := hv.ex
    simp (maxSteps := 4000000) -dsimp [-Y1, -Array.all_eq_true, -Y3, -Y4, and_assoc, Y5, Tryz.f88, sArgC, sNotEC, sMemBitC, sMemPutC, sTimeC, sCountC, sWhenC]
    have e : doM m op (argD xs 0) (argD xs 1) (argD xs 2) true dt = whenM m op (argD xs 0) (argD xs 1) (argD xs 2) := by simp [doM, h21, h24, h29, n26, n27, n28]
    try rw [e]
    exact ⟨_, rfl, s1, s2⟩
def sActDoC_S : Rels Tryz.prog 88 where
  ι := ((M) × (Int) × (Option Addr) × (Nat) × (List Dev) × (Bool) × (Int))
  A := fun (i : ((M) × (Int) × (Option Addr) × (Nat) × (List Dev) × (Bool) × (Int))) => match i with | (m, op, o, cap, xs, cur, dt) => [.agg (cells m), .agg #[.int .i64 op, .slice o xs.length cap], .bool cur, .int .u16 dt]
  pre := fun (i : ((M) × (Int) × (Option Addr) × (Nat) × (List Dev) × (Bool) × (Int))) (F : Facts) => match i with | (m, op, o, cap, xs, cur, dt) => RdD F o xs ∧ MOk m ∧ 0 ≤ dt ∧ dt < 65536
  post := fun (i : ((M) × (Int) × (Option Addr) × (Nat) × (List Dev) × (Bool) × (Int))) => match i with | (m, op, o, cap, xs, cur, dt) => fun r => IsMem r (doM m op (argD xs 0) (argD xs 1) (argD xs 2) cur dt)
  mono := by
    intro i F G hs h
    first | exact h | exact h.mono hs | exact ⟨h.1.mono hs, h.2⟩ | exact ⟨h.1.mono hs, h.2.1.mono hs, h.2.2⟩ | exact ⟨h.1.mono hs, h.2.1.mono hs⟩
  enter := Tryz.call88
  h := fun i w hp => sActDoC_c i.1 i.2.1 i.2.2.1 i.2.2.2.1 i.2.2.2.2.1 i.2.2.2.2.2.1 i.2.2.2.2.2.2 w (by rw [factF_init]; exact hp)
def sActDoC : Con Tryz.prog := Con.rel sActDoC_S
end Go.Proofs.YtfhnbdlkiemaeaaGreat
