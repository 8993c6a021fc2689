/-
  No cell of these rows narrows 'for every input' (looked for: loops, veiled, ifaces, maps, wideKeys, modest, calm, conditions, laid).
  DERIVED. THE GIVEN ROWS OF THIS SEAT. 5 by the template 'for every input the law returns true; each argument reads behind the call as it read before'; 0 by the template 'total and deterministic' (their statements: YtfhnbdlkiemaeaaGreatTotals.lean).
  GIVEN WITH THE SEED: the statements are not yours to turn. If you find one false, say at which input.
  Laid BY PROGRAM, IN A SANDBOX (cutbox-rows.mjs): the forced cells as the released guide's own fill.sh prints them over the translation 06409ad9a67ecd27… (all of the seat's roots in one cut). By AI agents, Wed Nov 11 2026. No macro, syntax, notation, axiom, sorry.
-/
import Derived.Test.YtfhnbdlkiemaeaaGreatChecked
import GoSem.Claim
import GoSem.ClaimJoined
import GoSem.ClaimMapViews
import Derived.JoinedTies
import Derived.KernelRfl
namespace Go.Proofs.YtfhnbdlkiemaeaaGreat
/- THE CELL 'sum', in the pinned program and in every row, IS THE sha256 OF THE DUMP (.gsa) THAT YtfhnbdlkiemaeaaGreatProg.lean LOADS. Nothing in Lean hashes anything: it is a label: what it is worth is what the hold of that sum in a sandbox is worth. -/
noncomputable def Tryz.pinned : Pinned := { name := "ytfhnbdlkiemaeaagreat", sum := "06409ad9a67ecd272572e96f2081fc70c77ccfe298b63613c4610dfb1e88523a", checked := Tryz.checked }
namespace Rows
def none {H : Type} : Left H := { results := [], args := [] }

/-- 'laws.FnMachTop': WHATEVER THE INPUT: true; the input reads as it did. -/
def fnMachTopSpec : ChangeSpec := { name := "fnMachTop", fn := fun _ => fun
  | [d] => { results := [.lit (.bool true)], args := [d] }
  | _ => none }
def fnMachTopRow : OpenClaim := { program := "ytfhnbdlkiemaeaagreat", sum := "06409ad9a67ecd272572e96f2081fc70c77ccfe298b63613c4610dfb1e88523a", func := "loop.example/stilmach/laws.FnMachTop", spec := "fnMachTop", inPlace := ["math.Float64frombits", "math.Float64bits", "math.archTrunc"], unfollowed := true, recurses := true, apart := false }
def FnMachTopSaid : Prop := fnMachTopRow.holds Tryz.pinned (OpenSpec.ofChange fnMachTopSpec)

/-- ITS FALSE NEIGHBOUR: 'it returns false'. Refute it at one input. -/
def fnMachTopWrong : ChangeSpec := { name := "fnMachTop", fn := fun _ => fun
  | [d] => { results := [.lit (.bool false)], args := [d] }
  | _ => none }
def FnMachTopWrongFalsely : Prop := fnMachTopRow.holds Tryz.pinned (OpenSpec.ofChange fnMachTopWrong)

/-- 'laws.FnMachHeights': WHATEVER THE INPUT: true; the input reads as it did. -/
def fnMachHeightsSpec : ChangeSpec := { name := "fnMachHeights", fn := fun _ => fun
  | [d] => { results := [.lit (.bool true)], args := [d] }
  | _ => none }
def fnMachHeightsRow : OpenClaim := { program := "ytfhnbdlkiemaeaagreat", sum := "06409ad9a67ecd272572e96f2081fc70c77ccfe298b63613c4610dfb1e88523a", func := "loop.example/stilmach/laws.FnMachHeights", spec := "fnMachHeights", inPlace := ["math.Float64frombits", "math.Float64bits", "math.archTrunc"], unfollowed := true, recurses := true, apart := false }
def FnMachHeightsSaid : Prop := fnMachHeightsRow.holds Tryz.pinned (OpenSpec.ofChange fnMachHeightsSpec)

/-- ITS FALSE NEIGHBOUR: 'it returns false'. Refute it at one input. -/
def fnMachHeightsWrong : ChangeSpec := { name := "fnMachHeights", fn := fun _ => fun
  | [d] => { results := [.lit (.bool false)], args := [d] }
  | _ => none }
def FnMachHeightsWrongFalsely : Prop := fnMachHeightsRow.holds Tryz.pinned (OpenSpec.ofChange fnMachHeightsWrong)

/-- 'laws.FnExactMachWatch': WHATEVER THE INPUT: true; the input reads as it did. -/
def fnExactMachWatchSpec : ChangeSpec := { name := "fnExactMachWatch", fn := fun _ => fun
  | [d1, d2, d3] => { results := [.lit (.bool true)], args := [d1, d2, d3] }
  | _ => none }
def fnExactMachWatchRow : OpenClaim := { program := "ytfhnbdlkiemaeaagreat", sum := "06409ad9a67ecd272572e96f2081fc70c77ccfe298b63613c4610dfb1e88523a", func := "loop.example/stilmach/laws.FnExactMachWatch", spec := "fnExactMachWatch", inPlace := ["math.Float64frombits", "math.Float64bits", "math.archTrunc"], unfollowed := true, recurses := true, apart := false }
def FnExactMachWatchSaid : Prop := fnExactMachWatchRow.holds Tryz.pinned (OpenSpec.ofChange fnExactMachWatchSpec)

/-- ITS FALSE NEIGHBOUR: 'it returns false'. Refute it at one input. -/
def fnExactMachWatchWrong : ChangeSpec := { name := "fnExactMachWatch", fn := fun _ => fun
  | [d1, d2, d3] => { results := [.lit (.bool false)], args := [d1, d2, d3] }
  | _ => none }
def FnExactMachWatchWrongFalsely : Prop := fnExactMachWatchRow.holds Tryz.pinned (OpenSpec.ofChange fnExactMachWatchWrong)

/-- 'laws.FnMachStep': WHATEVER THE INPUT: true; the input reads as it did. -/
def fnMachStepSpec : ChangeSpec := { name := "fnMachStep", fn := fun _ => fun
  | [d] => { results := [.lit (.bool true)], args := [d] }
  | _ => none }
def fnMachStepRow : OpenClaim := { program := "ytfhnbdlkiemaeaagreat", sum := "06409ad9a67ecd272572e96f2081fc70c77ccfe298b63613c4610dfb1e88523a", func := "loop.example/stilmach/laws.FnMachStep", spec := "fnMachStep", inPlace := ["math.Float64frombits", "math.Float64bits", "math.archTrunc"], recurses := true, apart := false }
def FnMachStepSaid : Prop := fnMachStepRow.holds Tryz.pinned (OpenSpec.ofChange fnMachStepSpec)

/-- ITS FALSE NEIGHBOUR: 'it returns false'. Refute it at one input. -/
def fnMachStepWrong : ChangeSpec := { name := "fnMachStep", fn := fun _ => fun
  | [d] => { results := [.lit (.bool false)], args := [d] }
  | _ => none }
def FnMachStepWrongFalsely : Prop := fnMachStepRow.holds Tryz.pinned (OpenSpec.ofChange fnMachStepWrong)

/-- 'laws.FnMachFold': WHATEVER THE INPUT: true; the input reads as it did. -/
def fnMachFoldSpec : ChangeSpec := { name := "fnMachFold", fn := fun _ => fun
  | [d1, d2] => { results := [.lit (.bool true)], args := [d1, d2] }
  | _ => none }
def fnMachFoldRow : OpenClaim := { program := "ytfhnbdlkiemaeaagreat", sum := "06409ad9a67ecd272572e96f2081fc70c77ccfe298b63613c4610dfb1e88523a", func := "loop.example/stilmach/laws.FnMachFold", spec := "fnMachFold", inPlace := ["math.Float64frombits", "math.Float64bits", "math.archTrunc"], recurses := true, apart := false }
def FnMachFoldSaid : Prop := fnMachFoldRow.holds Tryz.pinned (OpenSpec.ofChange fnMachFoldSpec)

/-- ITS FALSE NEIGHBOUR: 'it returns false'. Refute it at one input. -/
def fnMachFoldWrong : ChangeSpec := { name := "fnMachFold", fn := fun _ => fun
  | [d1, d2] => { results := [.lit (.bool false)], args := [d1, d2] }
  | _ => none }
def FnMachFoldWrongFalsely : Prop := fnMachFoldRow.holds Tryz.pinned (OpenSpec.ofChange fnMachFoldWrong)

/- THE SECOND FORM. 'bulk': how many values and letters a reading holds, each counted each time it is reached (what is shared counts as often as it is met; a slice's spare places count too). A statement '..UptoSaid' is the law's where the arguments, and the package variables that the reading takes, are together of bulk at most 1048576: NARROWER than '..Said'. Prove '..Said' where nothing that the law and all that it calls make is longer than what came in: it says more and counts as full. Else prove '..UptoSaid'. A law counts once. -/
mutual
def uptoBulk {H : Type} : DataW H → Nat
  | .lit (.string bytes) => bytes.length + 1
  | .lit _ => 1
  | .nil => 1
  | .ptr d => uptoBulk d + 1
  | .slice elems spare => uptoBulkAll elems + uptoBulkAll spare + 1
  | .agg parts => uptoBulkAll parts + 1
  | .iface _ d => uptoBulk d + 1
  | .map entries => uptoBulkEntries entries + 1
  | .held _ => 1
def uptoBulkAll {H : Type} : List (DataW H) → Nat
  | [] => 0
  | d :: r => uptoBulk d + uptoBulkAll r
def uptoBulkEntries {H : Type} : List (Lit × DataW H) → Nat
  | [] => 0
  | x :: r => uptoBulkEntry x + uptoBulkEntries r
def uptoBulkEntry {H : Type} : Lit × DataW H → Nat
  | (.string bytes, d) => bytes.length + uptoBulk d + 1
  | (_, d) => uptoBulk d + 1
 end
def uptoSmall : (H : Type) → List (DataW H) → Bool := fun _ ds => decide (uptoBulkAll ds ≤ 1048576)
def OpenSpec.upto (s : _root_.Go.ChangeSpec) : _root_.Go.OpenSpec := { _root_.Go.OpenSpec.ofChange s with cond := some uptoSmall }

/-- 'laws.FnMachTop', WHERE WHAT IT READS IS OF BULK AT MOST 1048576: true; the input reads as it did. -/
def fnMachTopUptoRow : OpenClaim := { program := "ytfhnbdlkiemaeaagreat", sum := "06409ad9a67ecd272572e96f2081fc70c77ccfe298b63613c4610dfb1e88523a", func := "loop.example/stilmach/laws.FnMachTop", spec := "fnMachTop", inPlace := ["math.Float64frombits", "math.Float64bits", "math.archTrunc"], unfollowed := true, recurses := true, apart := false, narrowed := true }
def FnMachTopUptoSaid : Prop := fnMachTopUptoRow.holds Tryz.pinned (OpenSpec.upto fnMachTopSpec)

/-- 'laws.FnMachHeights', WHERE WHAT IT READS IS OF BULK AT MOST 1048576: true; the input reads as it did. -/
def fnMachHeightsUptoRow : OpenClaim := { program := "ytfhnbdlkiemaeaagreat", sum := "06409ad9a67ecd272572e96f2081fc70c77ccfe298b63613c4610dfb1e88523a", func := "loop.example/stilmach/laws.FnMachHeights", spec := "fnMachHeights", inPlace := ["math.Float64frombits", "math.Float64bits", "math.archTrunc"], unfollowed := true, recurses := true, apart := false, narrowed := true }
def FnMachHeightsUptoSaid : Prop := fnMachHeightsUptoRow.holds Tryz.pinned (OpenSpec.upto fnMachHeightsSpec)

/-- 'laws.FnExactMachWatch', WHERE WHAT IT READS IS OF BULK AT MOST 1048576: true; the input reads as it did. -/
def fnExactMachWatchUptoRow : OpenClaim := { program := "ytfhnbdlkiemaeaagreat", sum := "06409ad9a67ecd272572e96f2081fc70c77ccfe298b63613c4610dfb1e88523a", func := "loop.example/stilmach/laws.FnExactMachWatch", spec := "fnExactMachWatch", inPlace := ["math.Float64frombits", "math.Float64bits", "math.archTrunc"], unfollowed := true, recurses := true, apart := false, narrowed := true }
def FnExactMachWatchUptoSaid : Prop := fnExactMachWatchUptoRow.holds Tryz.pinned (OpenSpec.upto fnExactMachWatchSpec)

/-- 'laws.FnMachStep', WHERE WHAT IT READS IS OF BULK AT MOST 1048576: true; the input reads as it did. -/
def fnMachStepUptoRow : OpenClaim := { program := "ytfhnbdlkiemaeaagreat", sum := "06409ad9a67ecd272572e96f2081fc70c77ccfe298b63613c4610dfb1e88523a", func := "loop.example/stilmach/laws.FnMachStep", spec := "fnMachStep", inPlace := ["math.Float64frombits", "math.Float64bits", "math.archTrunc"], recurses := true, apart := false, narrowed := true }
def FnMachStepUptoSaid : Prop := fnMachStepUptoRow.holds Tryz.pinned (OpenSpec.upto fnMachStepSpec)

/-- 'laws.FnMachFold', WHERE WHAT IT READS IS OF BULK AT MOST 1048576: true; the input reads as it did. -/
def fnMachFoldUptoRow : OpenClaim := { program := "ytfhnbdlkiemaeaagreat", sum := "06409ad9a67ecd272572e96f2081fc70c77ccfe298b63613c4610dfb1e88523a", func := "loop.example/stilmach/laws.FnMachFold", spec := "fnMachFold", inPlace := ["math.Float64frombits", "math.Float64bits", "math.archTrunc"], recurses := true, apart := false, narrowed := true }
def FnMachFoldUptoSaid : Prop := fnMachFoldUptoRow.holds Tryz.pinned (OpenSpec.upto fnMachFoldSpec)

end Rows
end Go.Proofs.YtfhnbdlkiemaeaaGreat
