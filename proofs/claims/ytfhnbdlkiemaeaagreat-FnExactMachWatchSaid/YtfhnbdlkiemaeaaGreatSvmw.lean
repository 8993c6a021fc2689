/-
  What the laws of the verifier say, plainly. Plain Lean: nothing of a program stands here. Conditions: none.
-/
import Derived.Test.YtfhnbdlkiemaeaaGreatInmw
set_option linter.unusedVariables false
set_option linter.unusedSimpArgs false
namespace Go.Sx
open Go

def dB (c : Int) : Int := if c = 1 then 1 else if c = 4 ∨ c = 5 ∨ c = 11 then -1 else 0
def dF (c : Int) : Int := if c = 7 then 1 else if c = 9 then -1 else 0
def hB (xs : List Ins) (k : Nat) : Int := ((xs.take k).map fun x => dB x.code).sum
def hF (xs : List Ins) (k : Nat) : Int := ((xs.take k).map fun x => dF x.code).sum
def trRow (xs : List Ins) (k : Nat) : List Value := [.int .i64 (hB xs (k + 1)), .int .i64 (hF xs (k + 1))]
def trRows (xs : List Ins) (n : Nat) : List (List Value) := (List.range n).map (trRow xs)
def trN (xs : List Ins) : Nat := if xs.length ≤ 1000 then xs.length else 0
structure IsTr (F : Facts) (v : Value) (xs : List Ins) : Prop where
  ex : ∃ o cap, v = .slice o (trN xs) cap ∧ RdO F 2 o (trRows xs (trN xs)) ∧ trN xs ≤ cap ∧ cap ≤ maxLen
theorem IsTr.mono {F G : Facts} {v : Value} {xs : List Ins} (h : IsTr F v xs) (hs : Sub F G) : IsTr G v xs := by
  obtain ⟨o, cap, h1, h2, h3⟩ := h.ex
  exact ⟨o, cap, h1, RdO.mono h2 hs, h3⟩
theorem RdO.some {F : Facts} {size : Nat} {o : Option Addr} {rows : List (List Value)} (h : RdO F size o rows) {i : Nat} {r : List Value} (hi : rows[i]? = some r) : o.isSome = true := by
  obtain ⟨_, a, rfl, _⟩ := h i r hi; rfl
def pF (xs : List Ins) : Nat → Int
  | 0 => 0
  | k + 1 => if pF xs k < hF xs (k + 1) then hF xs (k + 1) else pF xs k
end Go.Sx
namespace Go.Sx
open Go

def needsN (c : Int) : Int := if c = 4 ∨ c = 5 then 2 else if c = 1 then 0 else 1
end Go.Sx
namespace Go.Sx
open Go

end Go.Sx
