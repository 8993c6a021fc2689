/-
  What coils do, plainly. Plain Lean: nothing of a program stands here. Conditions: none.
-/
import Derived.Test.YtmlmmaojomghdaaDoorKth
import Derived.Test.YtmlmmaojomghdaaDoorRwth
set_option linter.unusedVariables false
set_option linter.unusedSimpArgs false
set_option maxRecDepth 100000
namespace Go.Sx
open Go

section
variable (m : M)
theorem set_TT (b : Bool) (x : Int) : ∀ k, k < 16 → splice (cellC m) (5 + k * 2) [.v (.bool b), .v (.int .u16 x)] = cellC { m with T := upd m.T k (b, x) } := by apply lt16 <;> kernel_rfl
theorem set_CC (b c : Bool) (x : Int) : ∀ k, k < 16 → splice (cellC m) (37 + k * 3) [.v (.bool b), .v (.bool c), .v (.int .u16 x)] = cellC { m with C := upd m.C k (b, c, x) } := by apply lt16 <;> kernel_rfl
theorem get_TT : ∀ k, k < 16 → List.take 2 (List.drop (5 + k * 2) (cellC m)) = [.v (.bool (m.T k).1), .v (.int .u16 (m.T k).2)] := by apply lt16 <;> kernel_rfl
theorem get_CC : ∀ k, k < 16 → List.take 3 (List.drop (37 + k * 3) (cellC m)) = [.v (.bool (m.C k).1), .v (.bool (m.C k).2.1), .v (.int .u16 (m.C k).2.2)] := by apply lt16 <;> kernel_rfl
end

theorem sameF_symm {a b : Nat} (h : sameF a b) : sameF b a := by
  rcases h with ⟨rfl, h⟩ | ⟨h1, h2⟩
  · exact Or.inl ⟨rfl, h⟩
  · exact Or.inr ⟨h2, h1⟩
theorem sameF_trans {a b c : Nat} (h : sameF a b) (h' : sameF b c) : sameF a c := by
  rcases h with ⟨rfl, h⟩ | ⟨h1, h2⟩
  · exact h'
  · rcases h' with ⟨rfl, h'⟩ | ⟨h3, h4⟩
    · rw [h2] at h'; cases h'
    · exact Or.inr ⟨h1, h4⟩
theorem MSame.symm {a b : M} (h : MSame a b) : MSame b a := ⟨h.X.symm, h.Y.symm, h.Mw.symm, h.S.symm, h.E.symm, h.T.symm, h.C.symm, h.D.symm, fun k hk => sameF_symm (h.R k hk), h.Time.symm, h.Ran.symm, h.Fault.symm⟩
theorem MSame.trans {a b c : M} (h : MSame a b) (h' : MSame b c) : MSame a c := ⟨h.X.trans h'.X, h.Y.trans h'.Y, h.Mw.trans h'.Mw, h.S.trans h'.S, h.E.trans h'.E, h.T.trans h'.T, h.C.trans h'.C, h.D.trans h'.D, fun k hk => sameF_trans (h.R k hk) (h'.R k hk), h.Time.trans h'.Time, h.Ran.trans h'.Ran, h.Fault.trans h'.Fault⟩
theorem fRes_lt {x : Option Nat} {r : Nat} (h : fRes .f64 x r) (hx : ∀ y, x = some y → y < 18446744073709551616) : r < 18446744073709551616 := by
  cases x with
  | none => obtain ⟨t, rfl⟩ := h; exact nan_cut.2
  | some y => unfold fRes at h; simp only at h; subst h; exact hx _ rfl
theorem arith_lt {a b r : Nat} : (fRes .f64 (dbl.add a b) r → r < 18446744073709551616) ∧ (fRes .f64 (dbl.sub a b) r → r < 18446744073709551616) ∧ (fRes .f64 (dbl.mul a b) r → r < 18446744073709551616) ∧ (fRes .f64 (dbl.div a b) r → r < 18446744073709551616) :=
  ⟨fun h => fRes_lt h fun y e => Ieee.Format.map_write_lt dbl e, fun h => fRes_lt h fun y e => Ieee.Format.map_write_lt dbl e, fun h => fRes_lt h fun y e => Ieee.Format.map_write_lt dbl e, fun h => fRes_lt h fun y e => Ieee.Format.map_write_lt dbl e⟩
theorem nearest_lt {a : Int} (h : a.natAbs < 9007199254740992) : FloatKind.f64.nearest a < 18446744073709551616 := by
  have e : FloatKind.f64.nearest a = dbl.nearest (decide (a < 0)) a.natAbs 0 := rfl
  rw [e]
  by_cases h0 : a.natAbs = 0
  · rw [h0]
    cases decide (a < 0) <;> decide
  · obtain ⟨c1, c2, c3, c4⟩ := consts
    obtain ⟨e1, e2, e3, e4⟩ := nearest_int (neg := decide (a < 0)) h0 h
    rw [e1]
    unfold Ieee.Format.word
    rw [c1]
    generalize a.natAbs * 2 ^ (52 - a.natAbs.log2) = q at *
    generalize a.natAbs.log2 = l at *
    split <;> omega
theorem setT_ok {m : M} {j : Nat} {t : Bool × Int} (h : MOk m) (ht : 0 ≤ t.2 ∧ t.2 < 65536) : MOk { m with T := upd m.T j t } := by
  refine ⟨h.X, h.Y, h.Mw, h.S, h.E, fun k hk => ?_, h.C, h.D, h.R, h.Time⟩
  simp only [upd]; split
  · exact ht
  · exact h.T k hk
theorem setC_ok {m : M} {j : Nat} {t : Bool × Bool × Int} (h : MOk m) (ht : 0 ≤ t.2.2 ∧ t.2.2 < 65536) : MOk { m with C := upd m.C j t } := by
  refine ⟨h.X, h.Y, h.Mw, h.S, h.E, h.T, fun k hk => ?_, h.D, h.R, h.Time⟩
  simp only [upd]; split
  · exact ht
  · exact h.C k hk
theorem wrap16_bd (x : Int) : -32768 ≤ IntKind.i16.wrap x ∧ IntKind.i16.wrap x ≤ 32767 := by
  have h1 := Int.emod_nonneg x (b := 65536) (by omega)
  have h2 := Int.emod_lt_of_pos x (b := 65536) (by omega)
  simp only [IntKind.wrap, IntKind.signed, IntKind.bits]
  simp
  split <;> omega
end Go.Sx
