/-
  Which contacts, coils and instructions are ok, plainly. Plain Lean: nothing of a program stands here. Conditions: none.
-/
import Derived.Test.YtmiicjgbhkjocaaGreatIn
set_option linter.unusedVariables false
set_option linter.unusedSimpArgs false
namespace Go.Sx
open Go

def dOk (d : Dev) : Bool := devOk d.k d.n d.p
def isBit (d : Dev) : Bool := decide (d.k = 1 ∨ d.k = 2 ∨ d.k = 3 ∨ d.k = 4 ∨ d.k = 6 ∨ d.k = 7 ∨ d.k = 8) && dOk d
def isWhl (d : Dev) : Bool := decide (d.k = 7 ∨ d.k = 8 ∨ d.k = 9 ∨ d.k = 11) && dOk d
def isRl (d : Dev) : Bool := decide (d.k = 10 ∨ d.k = 12 ∨ d.k = 13) && dOk d
def arity (op : Int) : Int :=
  if op = 1 ∨ op = 2 ∨ op = 21 ∨ op = 22 ∨ op = 23 ∨ op = 25 then 1 else if op = 31 ∨ op = 32 ∨ op = 33 ∨ op = 34 ∨ op = 35 then 3 else if (1 ≤ op ∧ op ≤ 10) ∨ (21 ≤ op ∧ op ≤ 37) then 2 else 0
def pOk (d : Dev) : Bool := decide (d.k = 11 ∧ 0 ≤ d.n)
def xD (xs : List Dev) (j : Nat) : Dev := xs.getD j default
def bothB (xs : List Dev) : Bool := xs.all isWhl || xs.all isRl
def conB (op : Int) (xs : List Dev) : Bool :=
  if op ≤ 2 then isBit (xD xs 0) else if op ≤ 4 then isBit (xD xs 0) && decide ((xD xs 1).k = 5) else bothB xs
def conOk (op : Int) (xs : List Dev) : Bool := decide (1 ≤ op ∧ op ≤ 10 ∧ (xs.length : Int) = arity op) && xs.all dOk && conB op xs
def coilB (op : Int) (a : Dev) (r : List Dev) : Bool :=
  if op = 21 then decide (a.k = 2 ∨ a.k = 3) else if op = 22 then decide (a.k = 2 ∨ a.k = 3 ∨ a.k = 4) else if op = 23 then decide (a.k = 2 ∨ a.k = 3 ∨ a.k = 4 ∨ a.k = 7 ∨ a.k = 8)
  else if op = 24 then decide ((a.k = 2 ∨ a.k = 3) ∧ (xD r 0).k = 5) else if op = 25 then decide (a.k = 4)
  else if op = 26 ∨ op = 27 ∨ op = 28 then decide (a.k = 7) && pOk (xD r 0) else if op = 29 then decide (a.k = 8) && pOk (xD r 0)
  else if op = 35 then decide (a.k = 9) && r.all isWhl else if op = 36 then decide (a.k = 10) && r.all isWhl else if op = 37 then decide (a.k = 9) && r.all isRl
  else decide (a.k = 9) && r.all isWhl || decide (a.k = 10) && r.all isRl
def coilOk (op : Int) (xs : List Dev) : Bool := decide (21 ≤ op ∧ op ≤ 37 ∧ (xs.length : Int) = arity op) && xs.all dOk && coilB op (xD xs 0) (xs.drop 1)
def insOk (x : Ins) : Bool :=
  if 1 ≤ x.code ∧ x.code ≤ 3 then conOk x.op x.args else if x.code = 10 then coilOk x.op x.args else decide (1 ≤ x.code ∧ x.code ≤ 11 ∧ x.op = 0 ∧ x.args.length = 0)

theorem conOk_eq (op : Int) (xs : List Dev) : conOk op xs = (decide (1 ≤ op ∧ op ≤ 10) && (decide ((xs.length : Int) = arity op) && xs.all dOk) && conB op xs) := by
  unfold conOk; simp only [Bool.decide_and, Bool.and_assoc]
theorem coilOk_eq (op : Int) (xs : List Dev) : coilOk op xs = (decide (21 ≤ op ∧ op ≤ 37) && (decide ((xs.length : Int) = arity op) && xs.all dOk) && coilB op (xD xs 0) (xs.drop 1)) := by
  unfold coilOk; simp only [Bool.decide_and, Bool.and_assoc]
theorem list_one {xs : List Dev} (h : (xs.length : Int) = 1) : ∃ a, xs = [a] := by
  match xs, h with
  | [a], _ => exact ⟨a, rfl⟩
  | [], h => simp at h
  | a :: b :: r, h => simp at h; omega
theorem list_two {xs : List Dev} (h : (xs.length : Int) = 2) : ∃ a b, xs = [a, b] := by
  match xs, h with
  | [a, b], _ => exact ⟨a, b, rfl⟩
  | [], h => simp at h
  | [a], h => simp at h
  | a :: b :: c :: r, h => simp at h; omega
theorem list_three {xs : List Dev} (h : (xs.length : Int) = 3) : ∃ a b c, xs = [a, b, c] := by
  match xs, h with
  | [a, b, c], _ => exact ⟨a, b, c, rfl⟩
  | [], h => simp at h
  | [a], h => simp at h
  | [a, b], h => simp at h
  | a :: b :: c :: d :: r, h => simp at h; omega

def fIdx (g : Dev → Bool) : List Dev → Int → Int
  | [], _ => -1
  | x :: r, k => if g x = true then k else fIdx g r (k + 1)
theorem fIdx_drop {g : Dev → Bool} {xs : List Dev} {i : Nat} {x : Dev} (hx : xs[i]? = some x) : fIdx g (xs.drop i) i = if g x = true then (i : Int) else fIdx g (xs.drop (i + 1)) (i + 1 : Nat) := by
  have hi := (List.getElem?_eq_some_iff.1 hx).1
  have e := (List.getElem?_eq_some_iff.1 hx).2
  rw [List.drop_eq_getElem_cons hi, fIdx, e]; rfl
theorem fIdx_any (g : Dev → Bool) : ∀ (xs : List Dev) (k : Int), 0 ≤ k → (0 ≤ fIdx g xs k ↔ xs.any g = true)
  | [], k, _ => by simp [fIdx]
  | x :: r, k, h => by
    rw [fIdx, List.any_cons]
    by_cases hg : g x = true
    · rw [if_pos hg]; simp [hg, h]
    · rw [if_neg hg, fIdx_any g r (k + 1) (by omega)]; simp [hg]
/-- An operand of a slice, loaded whole or in parts. -/
structure DevAt (cx : Cx) (o o1 : Option Addr) (x : Dev) : Prop where
  there : o.isSome = true
  all : ∀ {P : Program} {d : Nat} {mem : List Blk} {t : TypeId} {K : Value → Prop}, aggT P t = some true → P.cellsOf t = 3 → LoadV d P cx mem t o K = K (.agg #[.int .i64 x.k, .int .i64 x.n, .int .i64 x.p])
  k : ∀ {P : Program} {d : Nat} {mem : List Blk} {t : TypeId} {K : Value → Prop}, aggT P t = some false → LoadV d P cx mem t o K = K (.int .i64 x.k)
  n : ∀ {P : Program} {d : Nat} {mem : List Blk} {t : TypeId} {K : Value → Prop}, aggT P t = some false → LoadV d P cx mem t o1 K = K (.int .i64 x.n)
theorem RdD.at {cx : Cx} {o : Option Addr} {xs : List Dev} (h : RdD (factF cx) o xs) {i : Nat} {x : Dev} (hx : xs[i]? = some x) : DevAt cx (padd o (i * 3)) (padd o (i * 3 + 1)) x := by
  have hr : (xs.map encD)[i]? = some (encD x) := by simp [hx]
  have hn := fun mem => RdO.mono h (sub_now cx mem)
  exact ⟨by rw [padd_isSome]; exact h.there (List.getElem?_eq_some_iff.1 hx).1, fun ht hc => RdO.ld_agg (hn _) ht hc hr, fun ht => RdO.ld_zero (hn _) ht hr rfl, fun ht => RdO.ld_one (hn _) ht hr rfl⟩
theorem RdD.at0 {cx : Cx} {o : Option Addr} {xs : List Dev} (h : RdD (factF cx) o xs) {x : Dev} (hx : xs[0]? = some x) : DevAt cx o (padd o 1) x := by
  have := h.at hx; simpa using this
theorem RdD.at1 {cx : Cx} {o : Option Addr} {xs : List Dev} (h : RdD (factF cx) o xs) {x : Dev} (hx : xs[1]? = some x) : DevAt cx (padd o 3) (padd o 4) x := by
  have := h.at hx; simpa using this
theorem RdD.at2 {cx : Cx} {o : Option Addr} {xs : List Dev} (h : RdD (factF cx) o xs) {x : Dev} (hx : xs[2]? = some x) : DevAt cx (padd o 6) (padd o 7) x := by
  have := h.at hx; simpa using this
theorem RdD.nil' (F : Facts) (o : Option Addr) : RdD F o [] := RdO.nil _ _ _
theorem RdD.drop1 {F : Facts} {o : Option Addr} {a : Dev} {r : List Dev} (h : RdD F o (a :: r)) : RdD F (padd o 3) r := by
  intro i x hi
  obtain ⟨h1, b, rfl, h3⟩ := h (i + 1) x (by simpa using hi)
  refine ⟨h1, b.add 3, rfl, fun j v hj => ?_⟩
  have := h3 j v hj
  rw [addr_add_add, show 3 + (i * 3 + j) = (i + 1) * 3 + j by omega]; exact this
end Go.Sx
