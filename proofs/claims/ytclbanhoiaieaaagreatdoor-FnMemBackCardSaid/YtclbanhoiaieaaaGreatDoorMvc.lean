/-
  The memory of the machine as plain data, and its cells. Plain Lean: nothing of a program stands here. Conditions: none.
-/
import Derived.Test.YtclbanhoiaieaaaGreatDoorSxvc
import Derived.KernelRfl
set_option linter.unusedVariables false
set_option linter.unusedSimpArgs false
set_option maxRecDepth 100000
namespace Go.Sx
open Go

structure Arr (n : Nat) (α : Type) [Inhabited α] where
  f : Nat → α
  out : ∀ k, n ≤ k → f k = default
instance {n : Nat} {α : Type} [Inhabited α] : CoeFun (Arr n α) (fun _ => Nat → α) := ⟨Arr.f⟩
theorem Arr.ext' {n : Nat} {α : Type} [Inhabited α] {a b : Arr n α} (h : ∀ k, k < n → a k = b k) : a = b := by
  obtain ⟨f, hf⟩ := a; obtain ⟨g, hg⟩ := b
  congr 1
  funext k
  by_cases e : k < n
  · exact h k e
  · rw [hf k (by omega), hg k (by omega)]
def upd {n : Nat} {α : Type} [Inhabited α] (f : Arr n α) (k : Nat) (v : α) : Arr n α :=
  ⟨fun j => if j = k ∧ j < n then v else f j, fun j h => by rw [if_neg (by omega)]; exact f.out j h⟩

structure M where
  X : Int
  Y : Int
  M : Int
  S : Int
  E : Int
  T : Arr 16 (Bool × Int)
  C : Arr 16 (Bool × Bool × Int)
  D : Arr 32 Int
  R : Arr 16 Nat
  Time : Int
  Ran : Bool
  Fault : Bool

def tL (f : Arr 16 (Bool × Int)) : List Value := (List.range 16).flatMap fun k => [.bool (f k).1, .int .u16 (f k).2]
def cL (f : Arr 16 (Bool × Bool × Int)) : List Value := (List.range 16).flatMap fun k => [.bool (f k).1, .bool (f k).2.1, .int .u16 (f k).2.2]
def dL (f : Arr 32 Int) : List Value := (List.range 32).map fun k => .int .i16 (f k)
def rL (f : Arr 16 Nat) : List Value := (List.range 16).map fun k => .float .f64 (f k)
def iL (f : Arr 4 Nat) : List Value := (List.range 4).map fun k => .float .f64 (f k)

def cellL (m : M) : List Value :=
  [.int .u32 m.X, .int .u32 m.Y, .int .u64 m.M, .int .u16 m.S, .int .u32 m.E] ++ tL m.T ++ cL m.C ++ dL m.D ++ rL m.R ++ [.int .u32 m.Time, .bool m.Ran, .bool m.Fault]
def cells (m : M) : Array Value := (cellL m).toArray
def cellC (m : M) : List C := (cellL m).map .v

theorem len_cellL (m : M) : (cellL m).length = 136 := by kernel_rfl
@[simp] theorem len_cellC (m : M) : (cellC m).length = 136 := by kernel_rfl
@[simp] theorem size_cells (m : M) : (cells m).size = 136 := by kernel_rfl
@[simp] theorem cellsC_cells (m : M) : cellsC (.v (.agg (cells m))) = cellC m := by kernel_rfl
@[simp] theorem toList_cells (m : M) : (cells m).toList = cellL m := by kernel_rfl
@[simp] theorem toArray_cellL (m : M) : (cellL m).toArray = cells m := by kernel_rfl
@[simp] theorem map_cellL (m : M) : List.map C.v (cellL m) = cellC m := by kernel_rfl
theorem allV_map : ∀ l : List Value, allV (l.map C.v) = some l
  | [] => rfl
  | x :: l => by simp [allV, allV_map l]
@[simp] theorem allV_cellC (m : M) : allV (cellC m) = some (cellL m) := allV_map _
@[simp] theorem take_cellC (m : M) : List.take 136 (cellC m) = cellC m := by kernel_rfl

section
variable (m : M)
@[simp] theorem get_X : (cellC m)[0]? = some (.v (.int .u32 m.X)) := by kernel_rfl
@[simp] theorem get_Y : (cellC m)[1]? = some (.v (.int .u32 m.Y)) := by kernel_rfl
@[simp] theorem get_M : (cellC m)[2]? = some (.v (.int .u64 m.M)) := by kernel_rfl
@[simp] theorem get_S : (cellC m)[3]? = some (.v (.int .u16 m.S)) := by kernel_rfl
@[simp] theorem get_E : (cellC m)[4]? = some (.v (.int .u32 m.E)) := by kernel_rfl
@[simp] theorem get_Time : (cellC m)[133]? = some (.v (.int .u32 m.Time)) := by kernel_rfl
@[simp] theorem get_Ran : (cellC m)[134]? = some (.v (.bool m.Ran)) := by kernel_rfl
@[simp] theorem get_Fault : (cellC m)[135]? = some (.v (.bool m.Fault)) := by kernel_rfl
@[simp] theorem gete_X (h : 0 < (cellC m).length) : (cellC m)[0]'h = .v (.int .u32 m.X) := by kernel_rfl
@[simp] theorem gete_Y (h : 1 < (cellC m).length) : (cellC m)[1]'h = .v (.int .u32 m.Y) := by kernel_rfl
@[simp] theorem gete_M (h : 2 < (cellC m).length) : (cellC m)[2]'h = .v (.int .u64 m.M) := by kernel_rfl
@[simp] theorem gete_S (h : 3 < (cellC m).length) : (cellC m)[3]'h = .v (.int .u16 m.S) := by kernel_rfl
@[simp] theorem gete_E (h : 4 < (cellC m).length) : (cellC m)[4]'h = .v (.int .u32 m.E) := by kernel_rfl
@[simp] theorem gete_Time (h : 133 < (cellC m).length) : (cellC m)[133]'h = .v (.int .u32 m.Time) := by kernel_rfl
@[simp] theorem gete_Ran (h : 134 < (cellC m).length) : (cellC m)[134]'h = .v (.bool m.Ran) := by kernel_rfl
@[simp] theorem gete_Fault (h : 135 < (cellC m).length) : (cellC m)[135]'h = .v (.bool m.Fault) := by kernel_rfl
@[simp] theorem set_X (x : Int) : (cellC m).set 0 (.v (.int .u32 x)) = cellC { m with X := x } := by kernel_rfl
@[simp] theorem set_Y (x : Int) : (cellC m).set 1 (.v (.int .u32 x)) = cellC { m with Y := x } := by kernel_rfl
@[simp] theorem set_M (x : Int) : (cellC m).set 2 (.v (.int .u64 x)) = cellC { m with M := x } := by kernel_rfl
@[simp] theorem set_S (x : Int) : (cellC m).set 3 (.v (.int .u16 x)) = cellC { m with S := x } := by kernel_rfl
@[simp] theorem set_E (x : Int) : (cellC m).set 4 (.v (.int .u32 x)) = cellC { m with E := x } := by kernel_rfl
@[simp] theorem set_Time (x : Int) : (cellC m).set 133 (.v (.int .u32 x)) = cellC { m with Time := x } := by kernel_rfl
@[simp] theorem set_Ran (x : Bool) : (cellC m).set 134 (.v (.bool x)) = cellC { m with Ran := x } := by kernel_rfl
@[simp] theorem set_Fault (x : Bool) : (cellC m).set 135 (.v (.bool x)) = cellC { m with Fault := x } := by kernel_rfl

theorem lt16 {p : Nat → Prop} (h0 : p 0) (h1 : p 1) (h2 : p 2) (h3 : p 3) (h4 : p 4) (h5 : p 5) (h6 : p 6) (h7 : p 7) (h8 : p 8) (h9 : p 9) (h10 : p 10) (h11 : p 11) (h12 : p 12) (h13 : p 13) (h14 : p 14) (h15 : p 15) :
    ∀ k, k < 16 → p k
  | 0, _ => h0 | 1, _ => h1 | 2, _ => h2 | 3, _ => h3 | 4, _ => h4 | 5, _ => h5 | 6, _ => h6 | 7, _ => h7 | 8, _ => h8 | 9, _ => h9 | 10, _ => h10 | 11, _ => h11 | 12, _ => h12 | 13, _ => h13 | 14, _ => h14 | 15, _ => h15
  | k + 16, h => absurd h (by omega)
theorem lt32 {p : Nat → Prop} (h : ∀ k, k < 16 → p k) (h' : ∀ k, k < 16 → p (k + 16)) (k : Nat) (hk : k < 32) : p k := by
  by_cases e : k < 16
  · exact h k e
  · have := h' (k - 16) (by omega); rwa [show k - 16 + 16 = k by omega] at this

theorem get_T0 : ∀ k, k < 16 → (cellC m)[5 + k * 2]? = some (.v (.bool (m.T k).1)) := by apply lt16 <;> kernel_rfl
theorem get_T1 : ∀ k, k < 16 → (cellC m)[5 + k * 2 + 1]? = some (.v (.int .u16 (m.T k).2)) := by apply lt16 <;> kernel_rfl
theorem get_C0 : ∀ k, k < 16 → (cellC m)[37 + k * 3]? = some (.v (.bool (m.C k).1)) := by apply lt16 <;> kernel_rfl
theorem get_C1 : ∀ k, k < 16 → (cellC m)[37 + k * 3 + 1]? = some (.v (.bool (m.C k).2.1)) := by apply lt16 <;> kernel_rfl
theorem get_C2 : ∀ k, k < 16 → (cellC m)[37 + k * 3 + 2]? = some (.v (.int .u16 (m.C k).2.2)) := by apply lt16 <;> kernel_rfl
theorem get_D : ∀ k, k < 32 → (cellC m)[85 + k]? = some (.v (.int .i16 (m.D k))) := by apply lt32 <;> apply lt16 <;> kernel_rfl
theorem get_R : ∀ k, k < 16 → (cellC m)[117 + k]? = some (.v (.float .f64 (m.R k))) := by apply lt16 <;> kernel_rfl
theorem set_D (x : Int) : ∀ k, k < 32 → (cellC m).set (85 + k) (.v (.int .i16 x)) = cellC { m with D := upd m.D k x } := by apply lt32 <;> apply lt16 <;> kernel_rfl
theorem set_R (x : Nat) : ∀ k, k < 16 → (cellC m).set (117 + k) (.v (.float .f64 x)) = cellC { m with R := upd m.R k x } := by apply lt16 <;> kernel_rfl

@[simp] theorem set_R12 (x : Nat) : (cellC m).set 129 (.v (.float .f64 x)) = cellC { m with R := upd m.R 12 x } := by kernel_rfl
@[simp] theorem set_R13 (x : Nat) : (cellC m).set 130 (.v (.float .f64 x)) = cellC { m with R := upd m.R 13 x } := by kernel_rfl
@[simp] theorem set_R14 (x : Nat) : (cellC m).set 131 (.v (.float .f64 x)) = cellC { m with R := upd m.R 14 x } := by kernel_rfl
@[simp] theorem set_R15 (x : Nat) : (cellC m).set 132 (.v (.float .f64 x)) = cellC { m with R := upd m.R 15 x } := by kernel_rfl
theorem tL_lit (f : Arr 16 (Bool × Int)) : tL f = [.bool (f 0).1, .int .u16 (f 0).2, .bool (f 1).1, .int .u16 (f 1).2, .bool (f 2).1, .int .u16 (f 2).2, .bool (f 3).1, .int .u16 (f 3).2, .bool (f 4).1, .int .u16 (f 4).2, .bool (f 5).1, .int .u16 (f 5).2, .bool (f 6).1, .int .u16 (f 6).2, .bool (f 7).1, .int .u16 (f 7).2, .bool (f 8).1, .int .u16 (f 8).2, .bool (f 9).1, .int .u16 (f 9).2, .bool (f 10).1, .int .u16 (f 10).2, .bool (f 11).1, .int .u16 (f 11).2, .bool (f 12).1, .int .u16 (f 12).2, .bool (f 13).1, .int .u16 (f 13).2, .bool (f 14).1, .int .u16 (f 14).2, .bool (f 15).1, .int .u16 (f 15).2] := by kernel_rfl
theorem cL_lit (f : Arr 16 (Bool × Bool × Int)) : cL f = [.bool (f 0).1, .bool (f 0).2.1, .int .u16 (f 0).2.2, .bool (f 1).1, .bool (f 1).2.1, .int .u16 (f 1).2.2, .bool (f 2).1, .bool (f 2).2.1, .int .u16 (f 2).2.2, .bool (f 3).1, .bool (f 3).2.1, .int .u16 (f 3).2.2, .bool (f 4).1, .bool (f 4).2.1, .int .u16 (f 4).2.2, .bool (f 5).1, .bool (f 5).2.1, .int .u16 (f 5).2.2, .bool (f 6).1, .bool (f 6).2.1, .int .u16 (f 6).2.2, .bool (f 7).1, .bool (f 7).2.1, .int .u16 (f 7).2.2, .bool (f 8).1, .bool (f 8).2.1, .int .u16 (f 8).2.2, .bool (f 9).1, .bool (f 9).2.1, .int .u16 (f 9).2.2, .bool (f 10).1, .bool (f 10).2.1, .int .u16 (f 10).2.2, .bool (f 11).1, .bool (f 11).2.1, .int .u16 (f 11).2.2, .bool (f 12).1, .bool (f 12).2.1, .int .u16 (f 12).2.2, .bool (f 13).1, .bool (f 13).2.1, .int .u16 (f 13).2.2, .bool (f 14).1, .bool (f 14).2.1, .int .u16 (f 14).2.2, .bool (f 15).1, .bool (f 15).2.1, .int .u16 (f 15).2.2] := by kernel_rfl
theorem dL_lit (f : Arr 32 Int) : dL f = [.int .i16 (f 0), .int .i16 (f 1), .int .i16 (f 2), .int .i16 (f 3), .int .i16 (f 4), .int .i16 (f 5), .int .i16 (f 6), .int .i16 (f 7), .int .i16 (f 8), .int .i16 (f 9), .int .i16 (f 10), .int .i16 (f 11), .int .i16 (f 12), .int .i16 (f 13), .int .i16 (f 14), .int .i16 (f 15), .int .i16 (f 16), .int .i16 (f 17), .int .i16 (f 18), .int .i16 (f 19), .int .i16 (f 20), .int .i16 (f 21), .int .i16 (f 22), .int .i16 (f 23), .int .i16 (f 24), .int .i16 (f 25), .int .i16 (f 26), .int .i16 (f 27), .int .i16 (f 28), .int .i16 (f 29), .int .i16 (f 30), .int .i16 (f 31)] := by kernel_rfl
theorem rL_lit (f : Arr 16 Nat) : rL f = [.float .f64 (f 0), .float .f64 (f 1), .float .f64 (f 2), .float .f64 (f 3), .float .f64 (f 4), .float .f64 (f 5), .float .f64 (f 6), .float .f64 (f 7), .float .f64 (f 8), .float .f64 (f 9), .float .f64 (f 10), .float .f64 (f 11), .float .f64 (f 12), .float .f64 (f 13), .float .f64 (f 14), .float .f64 (f 15)] := by kernel_rfl
theorem iL_lit (f : Arr 4 Nat) : iL f = [.float .f64 (f 0), .float .f64 (f 1), .float .f64 (f 2), .float .f64 (f 3)] := by kernel_rfl
@[simp] theorem len_tL (f) : (tL f).length = 32 := by kernel_rfl
@[simp] theorem len_cL (f) : (cL f).length = 48 := by kernel_rfl
@[simp] theorem len_dL (f) : (dL f).length = 32 := by kernel_rfl
@[simp] theorem len_rL (f) : (rL f).length = 16 := by kernel_rfl
@[simp] theorem len_iL (f) : (iL f).length = 4 := by kernel_rfl
@[simp] theorem allV_mapv (l : List Value) : allV (List.map C.v l) = some l := allV_map l
@[simp] theorem one_tL (f) : ((List.map C.v (tL f)).all C.one) = true := by kernel_rfl
@[simp] theorem one_cL (f) : ((List.map C.v (cL f)).all C.one) = true := by kernel_rfl
@[simp] theorem one_dL (f) : ((List.map C.v (dL f)).all C.one) = true := by kernel_rfl
@[simp] theorem one_rL (f) : ((List.map C.v (rL f)).all C.one) = true := by kernel_rfl
@[simp] theorem one_iL (f) : ((List.map C.v (iL f)).all C.one) = true := by kernel_rfl
@[simp] theorem one2_tL (f) : ((tL f).all (C.one ∘ C.v)) = true := by kernel_rfl
@[simp] theorem one2_cL (f) : ((cL f).all (C.one ∘ C.v)) = true := by kernel_rfl
@[simp] theorem one2_dL (f) : ((dL f).all (C.one ∘ C.v)) = true := by kernel_rfl
@[simp] theorem one2_rL (f) : ((rL f).all (C.one ∘ C.v)) = true := by kernel_rfl
@[simp] theorem one2_iL (f) : ((iL f).all (C.one ∘ C.v)) = true := by kernel_rfl
@[simp] theorem one_cellC (m : M) : ((cellC m).all C.one) = true := by kernel_rfl
@[simp] theorem sub_T (m : M) : List.take 32 (List.drop 5 (cellC m)) = List.map C.v (tL m.T) := by kernel_rfl
@[simp] theorem sub_C (m : M) : List.take 48 (List.drop 37 (cellC m)) = List.map C.v (cL m.C) := by kernel_rfl
@[simp] theorem sub_D (m : M) : List.take 32 (List.drop 85 (cellC m)) = List.map C.v (dL m.D) := by kernel_rfl
@[simp] theorem sub_R (m : M) : List.take 16 (List.drop 117 (cellC m)) = List.map C.v (rL m.R) := by kernel_rfl
@[simp] theorem put_T (m : M) (f) : splice (cellC m) 5 (List.map C.v (tL f)) = cellC { m with T := f } := by kernel_rfl
@[simp] theorem put_C (m : M) (f) : splice (cellC m) 37 (List.map C.v (cL f)) = cellC { m with C := f } := by kernel_rfl
@[simp] theorem put_D (m : M) (f) : splice (cellC m) 85 (List.map C.v (dL f)) = cellC { m with D := f } := by kernel_rfl
@[simp] theorem put_R (m : M) (f) : splice (cellC m) 117 (List.map C.v (rL f)) = cellC { m with R := f } := by kernel_rfl
@[simp] theorem take_iL (f) : List.take 4 (List.map C.v (iL f)) = List.map C.v (iL f) := by kernel_rfl
@[simp] theorem put_iL (m : M) (f) : splice (cellC m) 129 (List.map C.v (iL f)) = cellC { m with R := upd (upd (upd (upd m.R 12 (f 0)) 13 (f 1)) 14 (f 2)) 15 (f 3) } := by kernel_rfl
@[simp] theorem put_all (m a : M) : splice (cellC m) 0 (cellC a) = cellC a := by kernel_rfl
theorem tL_injf {f g : Arr 16 (Bool × Int)} (h : tL f = tL g) : f = g := by
  rw [tL_lit, tL_lit] at h
  simp only [List.cons.injEq, Value.bool.injEq, Value.int.injEq, true_and, and_true] at h
  obtain ⟨a0, b0, a1, b1, a2, b2, a3, b3, a4, b4, a5, b5, a6, b6, a7, b7, a8, b8, a9, b9, a10, b10, a11, b11, a12, b12, a13, b13, a14, b14, a15, b15⟩ := h
  exact Arr.ext' (lt16 (Prod.ext a0 b0) (Prod.ext a1 b1) (Prod.ext a2 b2) (Prod.ext a3 b3) (Prod.ext a4 b4) (Prod.ext a5 b5) (Prod.ext a6 b6) (Prod.ext a7 b7) (Prod.ext a8 b8) (Prod.ext a9 b9) (Prod.ext a10 b10) (Prod.ext a11 b11) (Prod.ext a12 b12) (Prod.ext a13 b13) (Prod.ext a14 b14) (Prod.ext a15 b15))
@[simp] theorem tL_inj {f g : Arr 16 (Bool × Int)} : tL f = tL g ↔ f = g := ⟨tL_injf, fun h => by rw [h]⟩
theorem cL_injf {f g : Arr 16 (Bool × Bool × Int)} (h : cL f = cL g) : f = g := by
  rw [cL_lit, cL_lit] at h
  simp only [List.cons.injEq, Value.bool.injEq, Value.int.injEq, true_and, and_true] at h
  obtain ⟨a0, b0, c0, a1, b1, c1, a2, b2, c2, a3, b3, c3, a4, b4, c4, a5, b5, c5, a6, b6, c6, a7, b7, c7, a8, b8, c8, a9, b9, c9, a10, b10, c10, a11, b11, c11, a12, b12, c12, a13, b13, c13, a14, b14, c14, a15, b15, c15⟩ := h
  exact Arr.ext' (lt16 (Prod.ext a0 (Prod.ext b0 c0)) (Prod.ext a1 (Prod.ext b1 c1)) (Prod.ext a2 (Prod.ext b2 c2)) (Prod.ext a3 (Prod.ext b3 c3)) (Prod.ext a4 (Prod.ext b4 c4)) (Prod.ext a5 (Prod.ext b5 c5)) (Prod.ext a6 (Prod.ext b6 c6)) (Prod.ext a7 (Prod.ext b7 c7)) (Prod.ext a8 (Prod.ext b8 c8)) (Prod.ext a9 (Prod.ext b9 c9)) (Prod.ext a10 (Prod.ext b10 c10)) (Prod.ext a11 (Prod.ext b11 c11)) (Prod.ext a12 (Prod.ext b12 c12)) (Prod.ext a13 (Prod.ext b13 c13)) (Prod.ext a14 (Prod.ext b14 c14)) (Prod.ext a15 (Prod.ext b15 c15)))
@[simp] theorem cL_inj {f g : Arr 16 (Bool × Bool × Int)} : cL f = cL g ↔ f = g := ⟨cL_injf, fun h => by rw [h]⟩
theorem dL_injf {f g : Arr 32 Int} (h : dL f = dL g) : f = g := by
  rw [dL_lit, dL_lit] at h
  simp only [List.cons.injEq, Value.bool.injEq, Value.int.injEq, true_and, and_true] at h
  obtain ⟨a0, a1, a2, a3, a4, a5, a6, a7, a8, a9, a10, a11, a12, a13, a14, a15, a16, a17, a18, a19, a20, a21, a22, a23, a24, a25, a26, a27, a28, a29, a30, a31⟩ := h
  exact Arr.ext' (lt32 (lt16 a0 a1 a2 a3 a4 a5 a6 a7 a8 a9 a10 a11 a12 a13 a14 a15) (lt16 a16 a17 a18 a19 a20 a21 a22 a23 a24 a25 a26 a27 a28 a29 a30 a31))
@[simp] theorem dL_inj {f g : Arr 32 Int} : dL f = dL g ↔ f = g := ⟨dL_injf, fun h => by rw [h]⟩
theorem rL_injf {f g : Arr 16 Nat} (h : rL f = rL g) : f = g := by
  rw [rL_lit, rL_lit] at h
  simp only [List.cons.injEq, Value.float.injEq, true_and, and_true] at h
  obtain ⟨a0, a1, a2, a3, a4, a5, a6, a7, a8, a9, a10, a11, a12, a13, a14, a15⟩ := h
  exact Arr.ext' (lt16 a0 a1 a2 a3 a4 a5 a6 a7 a8 a9 a10 a11 a12 a13 a14 a15)
@[simp] theorem rL_inj {f g : Arr 16 Nat} : rL f = rL g ↔ f = g := ⟨rL_injf, fun h => by rw [h]⟩
theorem iL_injf {f g : Arr 4 Nat} (h : iL f = iL g) : f = g := by
  rw [iL_lit, iL_lit] at h
  simp only [List.cons.injEq, Value.float.injEq, true_and, and_true] at h
  obtain ⟨a0, a1, a2, a3⟩ := h
  refine Arr.ext' fun k hk => ?_
  obtain rfl | rfl | rfl | rfl : k = 0 ∨ k = 1 ∨ k = 2 ∨ k = 3 := by omega
  · exact a0
  · exact a1
  · exact a2
  · exact a3
@[simp] theorem iL_inj {f g : Arr 4 Nat} : iL f = iL g ↔ f = g := ⟨iL_injf, fun h => by rw [h]⟩
@[simp] theorem put_iL2 (a b c d e g : C) (f : Arr 4 Nat) : splice [a, b, c, d, e, g] 2 (List.map C.v (iL f)) = a :: b :: List.map C.v (iL f) := by kernel_rfl
@[simp] theorem put_iL0 (a b c d e g x y : C) (f : Arr 4 Nat) : splice [a, b, c, d, e, g] 0 (x :: y :: List.map C.v (iL f)) = x :: y :: List.map C.v (iL f) := by kernel_rfl
def Arr.zero (n : Nat) (α : Type) [Inhabited α] : Arr n α := ⟨fun _ => default, fun _ _ => rfl⟩
def zeroM : M := ⟨0, 0, 0, 0, 0, Arr.zero _ _, Arr.zero _ _, Arr.zero _ _, Arr.zero _ _, 0, false, false⟩
end

theorem cellC_inj {m a : M} (h : cellC m = cellC a) : m = a := by
  have g : ∀ i : Nat, (cellC m)[i]? = (cellC a)[i]? := fun i => by rw [h]
  obtain ⟨X, Y, M, S, E, T, C, D, R, Ti, Ra, Fa⟩ := m
  obtain ⟨X', Y', M', S', E', T', C', D', R', Ti', Ra', Fa'⟩ := a
  have h0 := g 0; have h1 := g 1; have h2 := g 2; have h3 := g 3; have h4 := g 4; have h5 := g 133; have h6 := g 134; have h7 := g 135
  rw [get_X, get_X] at h0; rw [get_Y, get_Y] at h1; rw [get_M, get_M] at h2; rw [get_S, get_S] at h3; rw [get_E, get_E] at h4; rw [get_Time, get_Time] at h5; rw [get_Ran, get_Ran] at h6; rw [get_Fault, get_Fault] at h7
  simp only [Option.some.injEq, Sx.C.v.injEq, Value.int.injEq, Value.bool.injEq, true_and] at h0 h1 h2 h3 h4 h5 h6 h7
  have hT : T = T' := Arr.ext' fun k hk => by
    have a := g (5 + k * 2); have b := g (5 + k * 2 + 1)
    rw [get_T0 _ k hk, get_T0 _ k hk] at a; rw [get_T1 _ k hk, get_T1 _ k hk] at b
    simp only [Option.some.injEq, Sx.C.v.injEq, Value.int.injEq, Value.bool.injEq, true_and] at a b
    exact Prod.ext a b
  have hC : C = C' := Arr.ext' fun k hk => by
    have a := g (37 + k * 3); have b := g (37 + k * 3 + 1); have c := g (37 + k * 3 + 2)
    rw [get_C0 _ k hk, get_C0 _ k hk] at a; rw [get_C1 _ k hk, get_C1 _ k hk] at b; rw [get_C2 _ k hk, get_C2 _ k hk] at c
    simp only [Option.some.injEq, Sx.C.v.injEq, Value.int.injEq, Value.bool.injEq, true_and] at a b c
    exact Prod.ext a (Prod.ext b c)
  have hD : D = D' := Arr.ext' fun k hk => by
    have a := g (85 + k)
    rw [get_D _ k hk, get_D _ k hk] at a
    simpa only [Option.some.injEq, Sx.C.v.injEq, Value.int.injEq, true_and] using a
  have hR : R = R' := Arr.ext' fun k hk => by
    have a := g (117 + k)
    rw [get_R _ k hk, get_R _ k hk] at a
    simpa only [Option.some.injEq, Sx.C.v.injEq, Value.float.injEq, true_and] using a
  subst h0; subst h1; subst h2; subst h3; subst h4; subst h5; subst h6; subst h7; subst hT; subst hC; subst hD; subst hR
  rfl
@[simp] theorem cells_inj {m a : M} : cells m = cells a ↔ m = a := by
  refine ⟨fun h => cellC_inj ?_, fun h => by rw [h]⟩
  have : cellL m = cellL a := congrArg Array.toList h
  unfold cellC; rw [this]

end Go.Sx
