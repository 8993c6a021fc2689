/-
  Texts, plainly: of operands, contacts and coils, instructions, lists, memories. Nothing of a program stands here. Conditions: none.
-/
import Derived.Test.YtmlmmaojomghdaaDoorRttw
set_option linter.unusedVariables false
set_option linter.unusedSimpArgs false
namespace Go.Sx
open Go

abbrev Str := List UInt8
def letterU (k : Int) : UInt8 := ([88, 89, 77, 83, 69, 71, 84, 67, 68, 82] : Str).getD (k - 1).toNat 0
def wordOf (c : Int) : Str :=
  if c = 1 then [108, 100] else if c = 2 then [97, 110, 100] else if c = 3 then [111, 114] else if c = 4 then [97, 110, 98] else if c = 5 then [111, 114, 98]
  else if c = 6 then [105, 110, 118] else if c = 7 then [109, 112, 115] else if c = 8 then [109, 114, 100] else if c = 9 then [109, 112, 112] else if c = 10 then [99, 111, 105, 108]
  else if c = 11 then [101, 110, 100] else []
/-! ### memories -/
inductive MW where
  | bit (k : Int) (n : Nat)
  | tim (i : Nat) (d : Bool) (c : Int)
  | cnt (i : Nat) (d l : Bool) (c : Int)
  | dat (i : Nat) (v : Int)
  | real (i : Nat) (x : Nat)
  | time (t : Int)
  | ran
  | fault
def MW.text : MW → Str
  | .bit k n => letterU k :: decL n
  | .tim i d c => 84 :: (decL i ++ 61 :: (decZ c ++ (if d then [33] else [])))
  | .cnt i d l c => 67 :: (decL i ++ 61 :: (decZ c ++ ((if d then [33] else []) ++ (if l then [43] else []))))
  | .dat i v => 68 :: (decL i ++ 61 :: decZ v)
  | .real i x => 82 :: (decL i ++ 61 :: realL x)
  | .time t => [116, 105, 109, 101, 61] ++ decZ t
  | .ran => [114, 97, 110]
  | .fault => [102, 97, 117, 108, 116]
end Go.Sx
