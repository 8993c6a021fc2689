/-
  Texts, plainly: of operands, contacts and coils, instructions, lists, memories. Nothing of a program stands here. Conditions: none.
-/
import Derived.Test.YtclbanhoiaieaaaGreatDoorRtvc
set_option linter.unusedVariables false
set_option linter.unusedSimpArgs false
namespace Go.Sx
open Go

abbrev Str := List UInt8
def joinL (c : UInt8) : List Str → Str
  | [] => []
  | [w] => w
  | w :: r => w ++ c :: joinL c r
theorem joinL_cons (c : UInt8) (w : Str) {r : List Str} (h : r ≠ []) : joinL c (w :: r) = w ++ c :: joinL c r := by
  cases r with
  | nil => exact absurd rfl h
  | cons x r => rfl
theorem joinL_flat (c : UInt8) : ∀ {ws : List Str}, ws ≠ [] → (ws.map (· ++ [c])).flatten = joinL c ws ++ [c]
  | [], h => absurd rfl h
  | [w], _ => by simp [joinL]
  | w :: x :: r, _ => by
    rw [List.map_cons, List.flatten_cons, joinL_flat c (ws := x :: r) (by simp), joinL_cons c w (by simp)]
    simp
theorem joinL_dropLast (c : UInt8) (ws : List Str) : (ws.map (· ++ [c])).flatten.dropLast = joinL c ws := by
  by_cases h : ws = []
  · subst h; rfl
  · rw [joinL_flat c h]; simp
def letterU (k : Int) : UInt8 := ([88, 89, 77, 83, 69, 71, 84, 67, 68, 82] : Str).getD (k - 1).toNat 0
def wordS (n : Int) : Str := if n = 0 then [110, 97, 110] else if n = 1 then [105, 110, 102] else if n = 2 then [45, 105, 110, 102] else [45, 48, 46, 48]
def padS (p : Nat) (l : Str) : Str := List.replicate (p + 1 - l.length) 48 ++ l
def fracS (p : Nat) (l : Str) : Str := l.take (l.length - p) ++ 46 :: l.drop (l.length - p)
def decT (n : Int) (p : Nat) : Str := (if n < 0 then [45] else []) ++ fracS p (padS p (decL n.natAbs))
def devT (d : Dev) : Str := if d.k = 11 then decZ d.n else if d.k = 12 then decT d.n d.p.toNat else if d.k = 13 then wordS d.n else letterU d.k :: decZ d.n
def devL (d : Dev) : Str := if dOk d then devT d else []
def coilName (op : Int) : Str :=
  if op = 21 then [111, 117, 116] else if op = 22 then [115, 101, 116] else if op = 23 then [114, 101, 115, 101, 116] else if op = 24 then [112, 117, 108, 115, 101]
  else if op = 25 then [115, 116, 101, 112] else if op = 26 then [116, 105, 109, 101, 114] else if op = 27 then [104, 111, 108, 100] else if op = 28 then [108, 97, 116, 101]
  else if op = 29 then [99, 111, 117, 110, 116] else if op = 30 then [109, 111, 118, 101] else if op = 31 then [97, 100, 100] else if op = 32 then [115, 117, 98]
  else if op = 33 then [109, 117, 108] else if op = 34 then [100, 105, 118] else if op = 35 then [114, 101, 109] else if op = 36 then [114, 101, 97, 108]
  else if op = 37 then [119, 104, 111, 108, 101] else []
def cmpS (op : Int) : Str := if op = 1 then [60] else if op = 2 then [60, 61] else if op = 3 then [61] else if op = 4 then [60, 62] else if op = 5 then [62, 61] else if op = 6 then [62] else []
def conT (op : Int) (xs : List Dev) : Str :=
  if op = 1 then devL (xD xs 0) else if op = 2 then 47 :: devL (xD xs 0) else if op = 3 then 43 :: (devL (xD xs 0) ++ 58 :: devL (xD xs 1))
  else if op = 4 then 45 :: (devL (xD xs 0) ++ 58 :: devL (xD xs 1)) else devL (xD xs 0) ++ (cmpS (op - 4) ++ devL (xD xs 1))
def elemL (op : Int) (xs : List Dev) : Str :=
  if coilOk op xs then coilName op ++ 58 :: joinL 44 (xs.map devL) else if conOk op xs then conT op xs else []
/-! ### memories -/
inductive MW where
  | bit (k : Int) (n : Nat)
  | tim (i : Nat) (d : Bool) (c : Int)
  | cnt (i : Nat) (d l : Bool) (c : Int)
  | dat (i : Nat) (v : Int)
  | real (i : Nat) (x : Nat)
  | time (t : Int)
  | ran
  | fault
def MW.text : MW → Str
  | .bit k n => letterU k :: decL n
  | .tim i d c => 84 :: (decL i ++ 61 :: (decZ c ++ (if d then [33] else [])))
  | .cnt i d l c => 67 :: (decL i ++ 61 :: (decZ c ++ ((if d then [33] else []) ++ (if l then [43] else []))))
  | .dat i v => 68 :: (decL i ++ 61 :: decZ v)
  | .real i x => 82 :: (decL i ++ 61 :: realL x)
  | .time t => [116, 105, 109, 101, 61] ++ decZ t
  | .ran => [114, 97, 110]
  | .fault => [102, 97, 117, 108, 116]
def bitsW (m : M) (k : Int) : List MW := ((List.range (devSize k).toNat).filter fun (n : Nat) => memBit m k n).map fun n => .bit k n
def timW (m : M) : List MW := ((List.range 16).filter fun i => (m.T i).1 || decide (0 < (m.T i).2)).map fun i => .tim i (m.T i).1 (m.T i).2
def cntW (m : M) : List MW := ((List.range 16).filter fun i => (m.C i).1 || ((m.C i).2.1 || decide (0 < (m.C i).2.2))).map fun i => .cnt i (m.C i).1 (m.C i).2.1 (m.C i).2.2
def datW (m : M) : List MW := ((List.range 32).filter fun i => decide (m.D i ≠ 0)).map fun i => .dat i (m.D i)
def realW (m : M) : List MW := ((List.range 16).filter fun i => decide (m.R i ≠ 0)).map fun i => .real i (m.R i)
def endW (m : M) : List MW := (if 0 < m.Time then [.time m.Time] else []) ++ ((if m.Ran then [.ran] else []) ++ (if m.Fault then [.fault] else []))
def memW (m : M) : List MW := bitsW m 1 ++ (bitsW m 2 ++ (bitsW m 3 ++ (bitsW m 4 ++ (bitsW m 5 ++ (timW m ++ (cntW m ++ (datW m ++ (realW m ++ endW m))))))))
def memL (m : M) : Str := joinL 32 ((memW m).map MW.text)

theorem decZ_short {n : Int} {k : Nat} (h : n.natAbs < 10 ^ (k + 1)) : (decZ n).length ≤ k + 2 := by
  unfold decZ
  have := decL_len n.natAbs k h
  split
  · simp; omega
  · omega
theorem flat_len {ws : List Str} {b : Nat} (h : ∀ w ∈ ws, w.length ≤ b) : ws.flatten.length ≤ ws.length * b := by
  induction ws with
  | nil => simp
  | cons w r ih =>
    rw [List.flatten_cons, List.length_append, List.length_cons, Nat.succ_mul]
    have h1 := h w (by simp)
    have h2 := ih fun x hx => h x (by simp [hx])
    omega
theorem joinL_len (c : UInt8) (ws : List Str) : (joinL c ws).length ≤ (ws.map (· ++ [c])).flatten.length := by
  rw [← joinL_dropLast, List.length_dropLast]; omega
end Go.Sx
