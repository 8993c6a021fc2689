/-
  Contracts: the real numbers of operands.
-/
import Derived.Test.YtclbanhoiaieaaaGreatDoorIvc
import Derived.Test.YtclbanhoiaieaaaGreatDoorPvc
import Derived.Test.YtclbanhoiaieaaaGreatDoorAvc
import Derived.Laws.Externs
set_option linter.unusedVariables false
set_option linter.unusedSimpArgs false
set_option maxRecDepth 100000
set_option maxHeartbeats 4000000
namespace Go.Sx
open Go

section
variable (m : M)
theorem set_TT (b : Bool) (x : Int) : ∀ k, k < 16 → splice (cellC m) (5 + k * 2) [.v (.bool b), .v (.int .u16 x)] = cellC { m with T := upd m.T k (b, x) } := by apply lt16 <;> kernel_rfl
theorem set_CC (b c : Bool) (x : Int) : ∀ k, k < 16 → splice (cellC m) (37 + k * 3) [.v (.bool b), .v (.bool c), .v (.int .u16 x)] = cellC { m with C := upd m.C k (b, c, x) } := by apply lt16 <;> kernel_rfl
theorem get_TT : ∀ k, k < 16 → List.take 2 (List.drop (5 + k * 2) (cellC m)) = [.v (.bool (m.T k).1), .v (.int .u16 (m.T k).2)] := by apply lt16 <;> kernel_rfl
theorem get_CC : ∀ k, k < 16 → List.take 3 (List.drop (37 + k * 3) (cellC m)) = [.v (.bool (m.C k).1), .v (.bool (m.C k).2.1), .v (.int .u16 (m.C k).2.2)] := by apply lt16 <;> kernel_rfl
end

theorem sameF_symm {a b : Nat} (h : sameF a b) : sameF b a := by
  rcases h with ⟨rfl, h⟩ | ⟨h1, h2⟩
  · exact Or.inl ⟨rfl, h⟩
  · exact Or.inr ⟨h2, h1⟩
theorem sameF_trans {a b c : Nat} (h : sameF a b) (h' : sameF b c) : sameF a c := by
  rcases h with ⟨rfl, h⟩ | ⟨h1, h2⟩
  · exact h'
  · rcases h' with ⟨rfl, h'⟩ | ⟨h3, h4⟩
    · rw [h2] at h'; cases h'
    · exact Or.inr ⟨h1, h4⟩
theorem MSame.symm {a b : M} (h : MSame a b) : MSame b a := ⟨h.X.symm, h.Y.symm, h.Mw.symm, h.S.symm, h.E.symm, h.T.symm, h.C.symm, h.D.symm, fun k hk => sameF_symm (h.R k hk), h.Time.symm, h.Ran.symm, h.Fault.symm⟩
theorem MSame.trans {a b c : M} (h : MSame a b) (h' : MSame b c) : MSame a c := ⟨h.X.trans h'.X, h.Y.trans h'.Y, h.Mw.trans h'.Mw, h.S.trans h'.S, h.E.trans h'.E, h.T.trans h'.T, h.C.trans h'.C, h.D.trans h'.D, fun k hk => sameF_trans (h.R k hk) (h'.R k hk), h.Time.trans h'.Time, h.Ran.trans h'.Ran, h.Fault.trans h'.Fault⟩
theorem fRes_lt {x : Option Nat} {r : Nat} (h : fRes .f64 x r) (hx : ∀ y, x = some y → y < 18446744073709551616) : r < 18446744073709551616 := by
  cases x with
  | none => obtain ⟨t, rfl⟩ := h; exact nan_cut.2
  | some y => unfold fRes at h; simp only at h; subst h; exact hx _ rfl
theorem arith_lt {a b r : Nat} : (fRes .f64 (dbl.add a b) r → r < 18446744073709551616) ∧ (fRes .f64 (dbl.sub a b) r → r < 18446744073709551616) ∧ (fRes .f64 (dbl.mul a b) r → r < 18446744073709551616) ∧ (fRes .f64 (dbl.div a b) r → r < 18446744073709551616) :=
  ⟨fun h => fRes_lt h fun y e => Ieee.Format.map_write_lt dbl e, fun h => fRes_lt h fun y e => Ieee.Format.map_write_lt dbl e, fun h => fRes_lt h fun y e => Ieee.Format.map_write_lt dbl e, fun h => fRes_lt h fun y e => Ieee.Format.map_write_lt dbl e⟩
theorem nearest_lt {a : Int} (h : a.natAbs < 9007199254740992) : FloatKind.f64.nearest a < 18446744073709551616 := by
  have e : FloatKind.f64.nearest a = dbl.nearest (decide (a < 0)) a.natAbs 0 := rfl
  rw [e]
  by_cases h0 : a.natAbs = 0
  · rw [h0]
    cases decide (a < 0) <;> decide
  · obtain ⟨c1, c2, c3, c4⟩ := consts
    obtain ⟨e1, e2, e3, e4⟩ := nearest_int (neg := decide (a < 0)) h0 h
    rw [e1]
    unfold Ieee.Format.word
    rw [c1]
    generalize a.natAbs * 2 ^ (52 - a.natAbs.log2) = q at *
    generalize a.natAbs.log2 = l at *
    split <;> omega
theorem setT_ok {m : M} {j : Nat} {t : Bool × Int} (h : MOk m) (ht : 0 ≤ t.2 ∧ t.2 < 65536) : MOk { m with T := upd m.T j t } := by
  refine ⟨h.X, h.Y, h.Mw, h.S, h.E, fun k hk => ?_, h.C, h.D, h.R, h.Time⟩
  simp only [upd]; split
  · exact ht
  · exact h.T k hk
theorem setC_ok {m : M} {j : Nat} {t : Bool × Bool × Int} (h : MOk m) (ht : 0 ≤ t.2.2 ∧ t.2.2 < 65536) : MOk { m with C := upd m.C j t } := by
  refine ⟨h.X, h.Y, h.Mw, h.S, h.E, h.T, fun k hk => ?_, h.D, h.R, h.Time⟩
  simp only [upd]; split
  · exact ht
  · exact h.C k hk
theorem wrap16_bd (x : Int) : -32768 ≤ IntKind.i16.wrap x ∧ IntKind.i16.wrap x ≤ 32767 := by
  have h1 := Int.emod_nonneg x (b := 65536) (by omega)
  have h2 := Int.emod_lt_of_pos x (b := 65536) (by omega)
  simp only [IntKind.wrap, IntKind.signed, IntKind.bits]
  simp
  split <;> omega
end Go.Sx

namespace Go.Sx
open Go

def okS (m : Nat) (b n : Int) : Bool := decide (0 ≤ n ∧ n ≤ m ∧ b < 2 ^ n.toNat)
def b2i (x : Bool) : Int := if x then 1 else 0
theorem b2i_bd (x : Bool) : 0 ≤ b2i x ∧ b2i x ≤ 1 := by cases x <;> decide
theorem pow_succ2 (k : Nat) : (2 : Int) ^ (k + 1) = 2 * 2 ^ k := by rw [Int.pow_succ, Int.mul_comm]
theorem pow_pos2 (k : Nat) : (0 : Int) < 2 ^ k := Int.pow_pos (by decide)
def pushS (m : Nat) (s : Int × Int) (x : Bool) : Int × Int := ((2 * s.1 + b2i x) % 2 ^ m, min (s.2 + 1) m)
def turnS (s : Int × Int) (x : Bool) : Int × Int := if s.2 = 0 then (0, 0) else (2 * (s.1 / 2) + b2i x, s.2)
theorem okS_iff {m : Nat} {b n : Int} : okS m b n = true ↔ (0 ≤ n ∧ n ≤ m ∧ b < 2 ^ n.toNat) := by unfold okS; simp
theorem pow_mono2 {j k : Nat} (h : j ≤ k) : (2 : Int) ^ j ≤ 2 ^ k := by
  obtain ⟨d, rfl⟩ := Nat.le.dest h
  induction d with
  | zero => simp
  | succ d ih =>
    have := ih (by omega)
    have hp := pow_pos2 (j + d)
    rw [← Nat.add_assoc, pow_succ2]; omega
end Go.Sx
namespace Go.Sx
open Go

end Go.Sx
namespace Go.Sx
open Go

structure MS where
  m : M
  s : Int × Int
  f : Int × Int
structure MSt (a b : MS) : Prop where
  m : MSame a.m b.m
  s : a.s = b.s
  f : a.f = b.f
theorem MSt.refl (a : MS) : MSt a a := ⟨MSame_refl _, rfl, rfl⟩
theorem MSt.symm {a b : MS} (h : MSt a b) : MSt b a := ⟨h.m.symm, h.s.symm, h.f.symm⟩
theorem MSt.trans {a b c : MS} (h : MSt a b) (h' : MSt b c) : MSt a c := ⟨h.m.trans h'.m, h.s.trans h'.s, h.f.trans h'.f⟩
structure SOk (m : Nat) (s : Int × Int) : Prop where
  b : 0 ≤ s.1
  ok : okS m s.1 s.2 = true
theorem SOk.bd {m : Nat} {s : Int × Int} (h : SOk m s) : 0 ≤ s.1 ∧ s.1 < 2 ^ m ∧ 0 ≤ s.2 ∧ s.2 ≤ m ∧ s.1 < 2 ^ s.2.toNat := by
  obtain ⟨h1, h2, h3⟩ := okS_iff.1 h.ok
  refine ⟨h.b, ?_, h1, h2, h3⟩
  have := pow_mono2 (j := s.2.toNat) (k := m) (by omega)
  omega
theorem SOk.push {m : Nat} {s : Int × Int} (h : SOk m s) (x : Bool) (hm : 1 ≤ m) : SOk m (pushS m s x) := by
  obtain ⟨h1, h2, h3, h4, h5⟩ := h.bd
  have hp := pow_pos2 m
  have e1 := Int.emod_nonneg (2 * s.1 + b2i x) (b := 2 ^ m) (by omega)
  have e2 := Int.emod_lt_of_pos (2 * s.1 + b2i x) hp
  have hx := b2i_bd x
  refine ⟨e1, okS_iff.2 ⟨?_, ?_, ?_⟩⟩
  · unfold pushS; simp only; omega
  · unfold pushS; simp only; omega
  · unfold pushS
    simp only
    by_cases hc : s.2 + 1 ≤ m
    · rw [Int.min_eq_left hc]
      have e : (s.2 + 1).toNat = s.2.toNat + 1 := by omega
      have e3 : (2 * s.1 + b2i x) % 2 ^ m ≤ 2 * s.1 + b2i x := by
        by_cases hv : 2 * s.1 + b2i x < 2 ^ m
        · rw [Int.emod_eq_of_lt (by omega) hv]; omega
        · omega
      rw [e, pow_succ2]; omega
    · rw [Int.min_eq_right (by omega)]
      simpa using e2
theorem SOk.turn {m : Nat} {s : Int × Int} (h : SOk m s) (x : Bool) : SOk m (turnS s x) := by
  obtain ⟨h1, h2, h3, h4, h5⟩ := h.bd
  have hx := b2i_bd x
  unfold turnS
  split
  · exact ⟨by simp, okS_iff.2 ⟨by simp, by simp, by simp⟩⟩
  · have e : s.2.toNat = (s.2 - 1).toNat + 1 := by omega
    rw [e, pow_succ2] at h5
    exact ⟨by simp only; omega, okS_iff.2 ⟨h3, h4, by simp only; rw [e, pow_succ2]; omega⟩⟩
end Go.Sx
namespace Go.Sx
open Go

end Go.Sx

namespace Go.Proofs.YtclbanhoiaieaaaGreatDoor
open Go Go.Sx
attribute [local simp] Sx.vcsE1 Sx.vcsE2 Sx.vcsE3 Sx.vcsE4 Sx.vcsE5 Sx.vcsE6 Sx.vcsE7 Sx.vcsE8 Sx.vcsE9 Sx.vcsE10 Sx.vcsE11 Sx.vcsE12 Sx.vcsE13 Sx.vcsE14 Sx.vcsE15 Sx.vcsE16 Sx.vcsE17 Sx.vcsE18 Sx.vcsE19 Sx.get Sx.look Sx.put Sx.pureFn Sx.findOrd Sx.unF Sx.dstOk Sx.isFloatT Sx.endVC Sx.resFn Sx.packC Sx.newFn Sx.storeFn Sx.buildFn Sx.known Sx.aggT Sx.cellsC Sx.findCon Sx.allV Sx.partsV Sx.partsC Sx.fillL Sx.exitTo Sx.fAr Sx.eqFn Sx.eqFieldsFn Sx.eqElemsFn Sx.partFn Sx.sliceFn Sx.boundFn Sx.AppV Sx.CopyV Sx.MakeSliceV Sx.NewsV Sx.GrowV Sx.TextV Sx.bytesL Sx.notInt Sx.typeAt Sx.argAt Sx.den Go.undef Go.Value.cells Go.Value.oneCell' Sx.Con.pure Sx.Con.some Sx.Con.read Sx.Con.make Sx.Con.ext Sx.Con.rel Sx.Con.extS Sx.Con.draw Sx.Con.step Sx.C.one Sx.Draws.steps

theorem frombits_run (n : Int) (w : World) : (callFunc 242 #[.int .u64 n]).run Tryz.prog w = .ok (.value (.float .f64 n.toNat)) w := by
  rw [run_callFunc_extern (e := Extern.MathFloatBits.float64frombits) Tryz.func242 (by kernel_rfl) (by kernel_rfl) (by kernel_rfl) (by kernel_rfl)]
  rfl
def frombitsC : Con Tryz.prog := Con.ext 242 (fun n : Int => [.int .u64 n]) (fun _ => True) (fun n => .float .f64 n.toNat) fun n w _ => frombits_run n w
theorem bits_run (b : Nat) (w : World) : (callFunc 153 #[.float .f64 b]).run Tryz.prog w = .ok (.value (.int .u64 b)) w := by
  rw [run_callFunc_extern (e := Extern.MathFloatBits.float64bits) Tryz.func153 (by kernel_rfl) (by kernel_rfl) (by kernel_rfl) (by kernel_rfl)]
  rfl
def bitsC : Con Tryz.prog := Con.ext 153 (fun n : Nat => [.float .f64 n]) (fun _ => True) (fun n => .int .u64 n) fun n w _ => bits_run n w

theorem nanC_c  (w : World) : Calls Tryz.prog 205 #[] w fun e w' => e = .returned (.float .f64 9221120237041090561) ∧ RowKit.Below w.heap.size w w' := by
  refine (plain_of_vcs ⟨[frombitsC], []⟩ hmx Tryz.func205 rfl (by kernel_rfl) (args := []) (by simp [Tryz.ntmps205]) w (· = .float .f64 9221120237041090561) 400 ?_).mono fun e w' ⟨v, h1, h2, h3⟩ => ⟨h2 ▸ h1, h3⟩
  simp (maxSteps := 4000000) -dsimp [-List.all_eq_true, -Array.all_eq_true, -Bool.exists_bool, -Bool.forall_bool, and_assoc, List.zipIdx, Tryz.f205, frombitsC]
def nanC : Con Tryz.prog := Con.pure 205 Tryz.call205 (fun (_u : Unit) => []) (fun (_u : Unit) => True) (fun (_u : Unit) => .float .f64 9221120237041090561) fun _u w _ => nanC_c  w
theorem infC_c (s : Int) (w : World) : Calls Tryz.prog 206 #[.int .i64 s] w fun e w' => e = .returned (.float .f64 (if 0 ≤ s then 9218868437227405312 else 18442240474082181120)) ∧ RowKit.Below w.heap.size w w' := by
  refine (plain_of_vcs ⟨[frombitsC], []⟩ hmx Tryz.func206 rfl (by kernel_rfl) (args := [.int .i64 s]) (by simp [Tryz.ntmps206]) w (· = .float .f64 (if 0 ≤ s then 9218868437227405312 else 18442240474082181120)) 400 ?_).mono fun e w' ⟨v, h1, h2, h3⟩ => ⟨h2 ▸ h1, h3⟩
  by_cases h : 0 ≤ s
  · have h' : ¬ s < 0 := by omega
    simp (maxSteps := 4000000) -dsimp [-List.all_eq_true, -Array.all_eq_true, -Bool.exists_bool, -Bool.forall_bool, and_assoc, List.zipIdx, Tryz.f206, frombitsC, h, h']
  · have h' : s < 0 := by omega
    simp (maxSteps := 4000000) -dsimp [-List.all_eq_true, -Array.all_eq_true, -Bool.exists_bool, -Bool.forall_bool, and_assoc, List.zipIdx, Tryz.f206, frombitsC, h, h']
def infC : Con Tryz.prog := Con.pure 206 Tryz.call206 (fun (s : ((Int))) => [.int .i64 s]) (fun (s : ((Int))) => True) (fun (s : ((Int))) => .float .f64 (if 0 ≤ s then 9218868437227405312 else 18442240474082181120)) fun s w _ => infC_c s w
theorem neg_inf : Op.negFloat FloatKind.f64 9218868437227405312 = 18442240474082181120 := by kernel_rfl
theorem neg_zero : Op.negFloat FloatKind.f64 0 = 9223372036854775808 := by kernel_rfl
theorem div_zero : FloatKind.f64.format.div 0 0 = none := by kernel_rfl
theorem div_one : FloatKind.f64.format.div 4607182418800017408 0 = some 9218868437227405312 := by kernel_rfl
theorem copysignC_c  (w : World) : Calls Tryz.prog 207 #[.float .f64 0, .float .f64 13830554455654793216] w fun e w' => e = .returned (.float .f64 9223372036854775808) ∧ RowKit.Below w.heap.size w w' := by
  refine (plain_of_vcs ⟨[frombitsC, bitsC], []⟩ hmx Tryz.func207 rfl (by kernel_rfl) (args := [.float .f64 0, .float .f64 13830554455654793216]) (by simp [Tryz.ntmps207]) w (· = .float .f64 9223372036854775808) 400 ?_).mono fun e w' ⟨v, h1, h2, h3⟩ => ⟨h2 ▸ h1, h3⟩
  simp (maxSteps := 4000000) -dsimp [-List.all_eq_true, -Array.all_eq_true, -Bool.exists_bool, -Bool.forall_bool, and_assoc, List.zipIdx, Tryz.f207, frombitsC, bitsC]
  rfl
def copysignC : Con Tryz.prog := Con.pure 207 Tryz.call207 (fun (_u : Unit) => [.float .f64 0, .float .f64 13830554455654793216]) (fun (_u : Unit) => True) (fun (_u : Unit) => .float .f64 9223372036854775808) fun _u w _ => copysignC_c  w
theorem l3NanC_c  (w : World) : Calls Tryz.prog 209 #[] w fun e w' => ∃ v, e = .returned v ∧ (fun v => ∃ r, v = .float .f64 r ∧ isNan r = true ∧ r < 18446744073709551616) v ∧ RowKit.Below w.heap.size w w' := by
  refine plain_of_vcs ⟨[], []⟩ hmx Tryz.func209 rfl (by kernel_rfl) (args := []) (by simp [Tryz.ntmps209]) w (fun v => ∃ r, v = .float .f64 r ∧ isNan r = true ∧ r < 18446744073709551616) 400 ?_
  simp (maxSteps := 4000000) -dsimp [-List.all_eq_true, -Array.all_eq_true, -Bool.exists_bool, -Bool.forall_bool, and_assoc, List.zipIdx, Tryz.f209]
  intro r hr
  rw [div_zero] at hr
  obtain ⟨t, rfl⟩ := hr
  exact nan_cut
def l3NanC : Con Tryz.prog := Con.some 209 Tryz.call209 (fun (_u : Unit) => []) (fun (_u : Unit) => True) (fun (_u : Unit) => fun v => ∃ r, v = .float .f64 r ∧ isNan r = true ∧ r < 18446744073709551616) fun _u w _ => l3NanC_c  w
theorem l3InfC_c  (w : World) : Calls Tryz.prog 210 #[] w fun e w' => e = .returned (.float .f64 9218868437227405312) ∧ RowKit.Below w.heap.size w w' := by
  refine (plain_of_vcs ⟨[], []⟩ hmx Tryz.func210 rfl (by kernel_rfl) (args := []) (by simp [Tryz.ntmps210]) w (· = .float .f64 9218868437227405312) 400 ?_).mono fun e w' ⟨v, h1, h2, h3⟩ => ⟨h2 ▸ h1, h3⟩
  simp (maxSteps := 4000000) -dsimp [-List.all_eq_true, -Array.all_eq_true, -Bool.exists_bool, -Bool.forall_bool, and_assoc, List.zipIdx, Tryz.f210]
  intro r hr
  rw [div_one] at hr
  exact hr
def l3InfC : Con Tryz.prog := Con.pure 210 Tryz.call210 (fun (_u : Unit) => []) (fun (_u : Unit) => True) (fun (_u : Unit) => .float .f64 9218868437227405312) fun _u w _ => l3InfC_c  w
end Go.Proofs.YtclbanhoiaieaaaGreatDoor
