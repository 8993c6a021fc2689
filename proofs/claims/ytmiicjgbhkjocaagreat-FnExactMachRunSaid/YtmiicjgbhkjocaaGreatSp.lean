/-
  How high the stacks are behind each instruction of a list, plainly. Plain Lean: nothing of a program stands here. Conditions: none.
-/
import Derived.Test.YtmiicjgbhkjocaaGreatIn
set_option linter.unusedVariables false
set_option linter.unusedSimpArgs false
namespace Go.Sx
open Go

def dB (c : Int) : Int := if c = 1 then 1 else if c = 4 ∨ c = 5 ∨ c = 11 then -1 else 0
def dF (c : Int) : Int := if c = 7 then 1 else if c = 9 then -1 else 0
def hB (xs : List Ins) (k : Nat) : Int := ((xs.take k).map fun x => dB x.code).sum
def hF (xs : List Ins) (k : Nat) : Int := ((xs.take k).map fun x => dF x.code).sum
theorem dB_abs (c : Int) : -1 ≤ dB c ∧ dB c ≤ 1 := by unfold dB; split <;> (try split) <;> omega
theorem dF_abs (c : Int) : -1 ≤ dF c ∧ dF c ≤ 1 := by unfold dF; split <;> (try split) <;> omega
theorem hB_zero (xs : List Ins) : hB xs 0 = 0 := rfl
theorem hF_zero (xs : List Ins) : hF xs 0 = 0 := rfl
theorem hB_succ {xs : List Ins} {k : Nat} {x : Ins} (hx : xs[k]? = some x) : hB xs (k + 1) = hB xs k + dB x.code := by
  unfold hB; rw [List.take_add_one, hx]; simp
theorem hF_succ {xs : List Ins} {k : Nat} {x : Ins} (hx : xs[k]? = some x) : hF xs (k + 1) = hF xs k + dF x.code := by
  unfold hF; rw [List.take_add_one, hx]; simp
theorem hB_abs (xs : List Ins) : ∀ k : Nat, k ≤ xs.length → -(k : Int) ≤ hB xs k ∧ hB xs k ≤ k
  | 0, _ => by rw [hB_zero]; omega
  | k + 1, h => by
    have hx : xs[k]? = some (xs[k]'(by omega)) := by simp [show k < xs.length by omega]
    have := hB_abs xs k (by omega)
    have := dB_abs (xs[k]'(by omega)).code
    rw [hB_succ hx]; omega
theorem hF_abs (xs : List Ins) : ∀ k : Nat, k ≤ xs.length → -(k : Int) ≤ hF xs k ∧ hF xs k ≤ k
  | 0, _ => by rw [hF_zero]; omega
  | k + 1, h => by
    have hx : xs[k]? = some (xs[k]'(by omega)) := by simp [show k < xs.length by omega]
    have := hF_abs xs k (by omega)
    have := dF_abs (xs[k]'(by omega)).code
    rw [hF_succ hx]; omega
def trRow (xs : List Ins) (k : Nat) : List Value := [.int .i64 (hB xs (k + 1)), .int .i64 (hF xs (k + 1))]
def trRows (xs : List Ins) (n : Nat) : List (List Value) := (List.range n).map (trRow xs)
def trN (xs : List Ins) : Nat := if xs.length ≤ 1000 then xs.length else 0
theorem trRows_len (xs : List Ins) (n : Nat) : (trRows xs n).length = n := by simp [trRows]
theorem trRows_two {xs : List Ins} {n : Nat} : ∀ r ∈ trRows xs n, r.length = 2 := fun r h => by
  obtain ⟨k, _, rfl⟩ := List.mem_map.1 h; rfl
theorem trRows_succ (xs : List Ins) (n : Nat) : trRows xs (n + 1) = trRows xs n ++ [trRow xs n] := by
  unfold trRows; rw [List.range_succ, List.map_append]; rfl
theorem trRows_at {xs : List Ins} {n k : Nat} (h : k < n) : (trRows xs n)[k]? = some (trRow xs k) := by
  unfold trRows; rw [List.getElem?_map, List.getElem?_range h]; rfl
theorem trRows_flat (xs : List Ins) (n : Nat) : (trRows xs n).flatten.length = n * 2 := by
  rw [len_flat trRows_two, trRows_len]
/-- The cells of a trace. -/
def trC (xs : List Ins) (n : Nat) : List C := (trRows xs n).flatten.map .v
theorem trC_len (xs : List Ins) (n : Nat) : (trC xs n).length = n * 2 := by unfold trC; rw [List.length_map, trRows_flat]
theorem trC_zero (xs : List Ins) : trC xs 0 = [] := rfl
theorem trC_succ {xs : List Ins} {i : Nat} {x : Ins} (hx : xs[i]? = some x) : trC xs (i + 1) = trC xs i ++ [.v (.int .i64 (hB xs i + dB x.code)), .v (.int .i64 (hF xs i + dF x.code))] := by
  unfold trC; rw [trRows_succ, List.flatten_append, List.map_append]; simp [trRow, hB_succ hx, hF_succ hx]
theorem trC_den (xs : List Ins) (n : Nat) (pad : List C) : ((((trC xs n) ++ pad).map den).drop 0).take ((trRows xs n).length * 2) = (trRows xs n).flatten := by
  rw [List.drop_zero, List.map_append, List.take_left' (by rw [List.length_map, trC_len, trRows_len])]
  unfold trC; exact map_den_v _
theorem trC_take (xs : List Ins) (n : Nat) (pad : List C) : List.take (n * 2) (trC xs n ++ pad) = trC xs n := by
  rw [List.take_left' (trC_len _ _)]
/-- A trace in a memory. -/
structure IsTr (F : Facts) (v : Value) (xs : List Ins) : Prop where
  ex : ∃ o cap, v = .slice o (trN xs) cap ∧ RdO F 2 o (trRows xs (trN xs)) ∧ trN xs ≤ cap ∧ cap ≤ maxLen
theorem IsTr.mono {F G : Facts} {v : Value} {xs : List Ins} (h : IsTr F v xs) (hs : Sub F G) : IsTr G v xs := by
  obtain ⟨o, cap, h1, h2, h3⟩ := h.ex
  exact ⟨o, cap, h1, RdO.mono h2 hs, h3⟩
theorem trN_le (xs : List Ins) : trN xs ≤ xs.length ∧ trN xs ≤ 1000 := by unfold trN; split <;> omega
theorem RdO.some {F : Facts} {size : Nat} {o : Option Addr} {rows : List (List Value)} (h : RdO F size o rows) {i : Nat} {r : List Value} (hi : rows[i]? = some r) : o.isSome = true := by
  obtain ⟨_, a, rfl, _⟩ := h i r hi; rfl
/-- A state of a trace, loaded whole or in parts. -/
structure TrAt (cx : Cx) (o : Option Addr) (xs : List Ins) (i : Nat) : Prop where
  there : o.isSome = true
  all : ∀ {P : Program} {d : Nat} {mem : List Blk} {t : TypeId} {K : Value → Prop}, aggT P t = some true → P.cellsOf t = 2 → LoadV d P cx mem t (padd o (i * 2)) K = K (.agg #[.int .i64 (hB xs (i + 1)), .int .i64 (hF xs (i + 1))])
  bits : ∀ {P : Program} {d : Nat} {mem : List Blk} {t : TypeId} {K : Value → Prop}, aggT P t = some false → LoadV d P cx mem t (padd o (i * 2)) K = K (.int .i64 (hB xs (i + 1)))
  forks : ∀ {P : Program} {d : Nat} {mem : List Blk} {t : TypeId} {K : Value → Prop}, aggT P t = some false → LoadV d P cx mem t (padd o (i * 2 + 1)) K = K (.int .i64 (hF xs (i + 1)))
theorem trAt {cx : Cx} {o : Option Addr} {xs : List Ins} {n i : Nat} (h : RdO (factF cx) 2 o (trRows xs n)) (hi : i < n) : TrAt cx o xs i := by
  have hr := trRows_at hi (xs := xs)
  have hn := fun mem => RdO.mono h (sub_now cx mem)
  exact ⟨RdO.some h hr, fun ht hc => RdO.ld_agg (hn _) ht hc hr, fun ht => RdO.ld_zero (hn _) ht hr rfl, fun ht => RdO.ld_one (hn _) ht hr rfl⟩
/-- The greatest heights of the first k. -/
def pB (xs : List Ins) : Nat → Int
  | 0 => 0
  | k + 1 => if pB xs k < hB xs (k + 1) then hB xs (k + 1) else pB xs k
def pF (xs : List Ins) : Nat → Int
  | 0 => 0
  | k + 1 => if pF xs k < hF xs (k + 1) then hF xs (k + 1) else pF xs k
end Go.Sx
