/-
  The machine's state in a memory. Plain Lean: nothing of a program stands here. Conditions: none.
-/
import Derived.Test.YtmiicjgbhkjocaaGreatMe
set_option linter.unusedVariables false
set_option linter.unusedSimpArgs false
set_option maxRecDepth 100000
namespace Go.Sx
open Go

def stL (t : MS) : List Value := cellL t.m ++ [.int .u16 t.s.1, .int .i64 t.s.2, .int .u8 t.f.1, .int .i64 t.f.2]
def stA (t : MS) : Array Value := (stL t).toArray
def stC (t : MS) : List C := (stL t).map .v
theorem len_stL (t : MS) : (stL t).length = 140 := by kernel_rfl
@[simp] theorem len_stC (t : MS) : (stC t).length = 140 := by kernel_rfl
@[simp] theorem size_stA (t : MS) : (stA t).size = 140 := by kernel_rfl
@[simp] theorem cellsC_stA (t : MS) : cellsC (.v (.agg (stA t))) = stC t := by kernel_rfl
@[simp] theorem toList_stA (t : MS) : (stA t).toList = stL t := by kernel_rfl
@[simp] theorem toArray_stL (t : MS) : (stL t).toArray = stA t := by kernel_rfl
@[simp] theorem map_stL (t : MS) : List.map C.v (stL t) = stC t := by kernel_rfl
@[simp] theorem allV_stC (t : MS) : allV (stC t) = some (stL t) := allV_map _
@[simp] theorem take_stC (t : MS) : List.take 140 (stC t) = stC t := by kernel_rfl
@[simp] theorem one_stC (t : MS) : ((stC t).all C.one) = true := by kernel_rfl
@[simp] theorem st_mem (t : MS) : List.take 136 (stC t) = cellC t.m := by kernel_rfl
@[simp] theorem st_stack (t : MS) : List.take 2 (List.drop 136 (stC t)) = [.v (.int .u16 t.s.1), .v (.int .i64 t.s.2)] := by kernel_rfl
@[simp] theorem st_forks (t : MS) : List.take 2 (List.drop 138 (stC t)) = [.v (.int .u8 t.f.1), .v (.int .i64 t.f.2)] := by kernel_rfl
theorem st_put (t : MS) (m : M) : splice (stC t) 0 (cellC m) = stC ⟨m, t.s, t.f⟩ := by kernel_rfl
@[simp] theorem st_all (t u : MS) : splice (stC t) 0 (stC u) = stC u := by kernel_rfl
theorem st_putS (t : MS) (a b : Int) : splice (stC t) 136 [.v (.int .u16 a), .v (.int .i64 b)] = stC ⟨t.m, (a, b), t.f⟩ := by kernel_rfl
theorem st_putF (t : MS) (a b : Int) : splice (stC t) 138 [.v (.int .u8 a), .v (.int .i64 b)] = stC ⟨t.m, t.s, (a, b)⟩ := by kernel_rfl
@[simp] theorem st_get136 (t : MS) : (stC t)[136]? = some (.v (.int .u16 t.s.1)) := by kernel_rfl
@[simp] theorem st_get137 (t : MS) : (stC t)[137]? = some (.v (.int .i64 t.s.2)) := by kernel_rfl
@[simp] theorem st_get138 (t : MS) : (stC t)[138]? = some (.v (.int .u8 t.f.1)) := by kernel_rfl
@[simp] theorem st_get139 (t : MS) : (stC t)[139]? = some (.v (.int .i64 t.f.2)) := by kernel_rfl
@[simp] theorem st_gete136 (t : MS) (h : 136 < (stC t).length) : (stC t)[136]'h = .v (.int .u16 t.s.1) := by kernel_rfl
@[simp] theorem st_gete137 (t : MS) (h : 137 < (stC t).length) : (stC t)[137]'h = .v (.int .i64 t.s.2) := by kernel_rfl
@[simp] theorem st_gete138 (t : MS) (h : 138 < (stC t).length) : (stC t)[138]'h = .v (.int .u8 t.f.1) := by kernel_rfl
@[simp] theorem st_gete139 (t : MS) (h : 139 < (stC t).length) : (stC t)[139]'h = .v (.int .i64 t.f.2) := by kernel_rfl
theorem spl2 (a b c d : C) : splice [a, b] 0 [c, d] = [c, d] := rfl
@[simp] theorem stA_inj {t u : MS} : stA t = stA u ↔ t = u := by
  constructor
  · intro h
    have h1 : stL t = stL u := by
      have := congrArg Array.toList h
      simpa using this
    unfold stL at h1
    obtain ⟨e1, e2⟩ := List.append_inj h1 (by rw [len_cellL, len_cellL])
    have e3 : cells t.m = cells u.m := by unfold cells; rw [e1]
    have e4 := cells_inj.1 e3
    simp only [List.cons.injEq, Value.int.injEq, true_and, and_true] at e2
    obtain ⟨a, b, c, d⟩ := e2
    obtain ⟨m, ⟨s1, s2⟩, ⟨f1, f2⟩⟩ := t
    obtain ⟨m', ⟨s1', s2'⟩, ⟨f1', f2'⟩⟩ := u
    simp only at e4 a b c d
    subst e4 a b c d
    rfl
  · rintro rfl; rfl
structure IsSt (v : Value) (d : MS) : Prop where
  ex : ∃ t, v = .agg (stA t) ∧ MSt t d ∧ MSOk t
theorem isSt_self {d : MS} (h : MSOk d) : IsSt (.agg (stA d)) d := ⟨d, rfl, MSt.refl d, h⟩
theorem machN_low {t : MS} {x : Ins} {dt : Int} (h : 1 ≤ x.code ∧ x.code ≤ 3) : machN t x dt = ⟨testM t.m x.op (argD x.args 0) (argD x.args 1), joinB x.code t.s (testB t.m x.op (argD x.args 0) (argD x.args 1)), t.f⟩ := by unfold machN; rw [if_pos h]
theorem machN_45 {t : MS} {x : Ins} {dt : Int} (h : x.code = 4 ∨ x.code = 5) : machN t x dt = ⟨t.m, joinB (x.code - 2) (popB t.s) (topB t.s), t.f⟩ := by unfold machN; rw [if_neg (by omega), if_pos h]
theorem machN_6 {t : MS} {x : Ins} {dt : Int} (h : x.code = 6) : machN t x dt = ⟨t.m, turnB t.s (!topB t.s), t.f⟩ := by unfold machN; rw [if_neg (by omega), if_neg (by omega), if_pos h]
theorem machN_7 {t : MS} {x : Ins} {dt : Int} (h : x.code = 7) : machN t x dt = ⟨t.m, t.s, pushF t.f (topB t.s)⟩ := by unfold machN; rw [if_neg (by omega), if_neg (by omega), if_neg (by omega), if_pos h]
theorem machN_8 {t : MS} {x : Ins} {dt : Int} (h : x.code = 8) : machN t x dt = ⟨t.m, turnB t.s (topF t.f), t.f⟩ := by unfold machN; rw [if_neg (by omega), if_neg (by omega), if_neg (by omega), if_neg (by omega), if_pos h]
theorem machN_9 {t : MS} {x : Ins} {dt : Int} (h : x.code = 9) : machN t x dt = ⟨t.m, turnB t.s (topF t.f), popF t.f⟩ := by unfold machN; rw [if_neg (by omega), if_neg (by omega), if_neg (by omega), if_neg (by omega), if_neg (by omega), if_pos h]
theorem machN_10 {t : MS} {x : Ins} {dt : Int} (h : x.code = 10) : machN t x dt = ⟨doM t.m x.op (argD x.args 0) (argD x.args 1) (argD x.args 2) (topB t.s) dt, t.s, t.f⟩ := by unfold machN; rw [if_neg (by omega), if_neg (by omega), if_neg (by omega), if_neg (by omega), if_neg (by omega), if_neg (by omega), if_pos h]
theorem machN_11 {t : MS} {x : Ins} {dt : Int} (h : x.code = 11) : machN t x dt = ⟨t.m, popB t.s, t.f⟩ := by unfold machN; rw [if_neg (by omega), if_neg (by omega), if_neg (by omega), if_neg (by omega), if_neg (by omega), if_neg (by omega), if_neg (by omega), if_pos h]
theorem machN_no {t : MS} {x : Ins} {dt : Int} (h : x.code < 1 ∨ 11 < x.code) : machN t x dt = t := by unfold machN; rw [if_neg (by omega), if_neg (by omega), if_neg (by omega), if_neg (by omega), if_neg (by omega), if_neg (by omega), if_neg (by omega), if_neg (by omega)]
end Go.Sx
