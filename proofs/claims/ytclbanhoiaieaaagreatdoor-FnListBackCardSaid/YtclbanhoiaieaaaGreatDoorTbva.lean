/-
  A memory is what the words of its text say. Plain Lean: nothing of a program stands here. Conditions: none.
-/
import Derived.Test.YtclbanhoiaieaaaGreatDoorTava
import Derived.Test.YtclbanhoiaieaaaGreatDoorInva
import Derived.Test.YtclbanhoiaieaaaGreatDoorVva
set_option linter.unusedVariables false
set_option linter.unusedSimpArgs false
namespace Go.Sx
open Go

def MW.put (m : M) : MW → M
  | .bit k n => if k = 1 then { m with X := putBit m.X n true } else if k = 2 then { m with Y := putBit m.Y n true } else if k = 3 then { m with M := putBit m.M n true }
      else if k = 4 then { m with S := putBit m.S n true } else if k = 5 then { m with E := putBit m.E n true } else m
  | .tim i d c => { m with T := upd m.T i (d, c) }
  | .cnt i d l c => { m with C := upd m.C i (d, l, c) }
  | .dat i v => { m with D := upd m.D i v }
  | .real i x => { m with R := upd m.R i x }
  | .time t => { m with Time := t }
  | .ran => { m with Ran := true }
  | .fault => { m with Fault := true }
end Go.Sx
