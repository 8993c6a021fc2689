/-
  No cell of these rows narrows 'for every input' (looked for: loops, veiled, ifaces, maps, wideKeys, modest, calm, conditions, laid).
  DERIVED. THE GIVEN ROWS OF THIS SEAT. 8 by the template 'for every input the law returns true; each argument reads behind the call as it read before'; 0 by the template 'total and deterministic' (their statements: YteigfllcmdkboaaTotals.lean).
  GIVEN WITH THE SEED: the statements are not yours to turn. If you find one false, say at which input.
  Laid BY PROGRAM, IN A SANDBOX (cutbox-rows.mjs): the forced cells as the released guide's own fill.sh prints them over the translation 227955761c70170d… (all of the seat's roots in one cut). By AI agents, Wed Nov 11 2026. No macro, syntax, notation, axiom, sorry.
-/
import Derived.Test.YteigfllcmdkboaaChecked
import GoSem.Claim
import GoSem.ClaimJoined
import GoSem.ClaimMapViews
import Derived.JoinedTies
import Derived.KernelRfl
namespace Go.Proofs.Yteigfllcmdkboaa
/- THE CELL 'sum', in the pinned program and in every row, IS THE sha256 OF THE DUMP (.gsa) THAT YteigfllcmdkboaaProg.lean LOADS. Nothing in Lean hashes anything: it is a label: what it is worth is what the hold of that sum in a sandbox is worth. -/
noncomputable def Try.pinned : Pinned := { name := "yteigfllcmdkboaa", sum := "227955761c70170dded819a8d94e03ec6a05a0a43a50895125ea5cb29469138c", checked := Try.checked }
namespace Rows
def none {H : Type} : Left H := { results := [], args := [] }

/-- 'laws.FnActEdge': WHATEVER THE INPUT: true; the input reads as it did. -/
def fnActEdgeSpec : ChangeSpec := { name := "fnActEdge", fn := fun _ => fun
  | [d] => { results := [.lit (.bool true)], args := [d] }
  | _ => none }
def fnActEdgeRow : OpenClaim := { program := "yteigfllcmdkboaa", sum := "227955761c70170dded819a8d94e03ec6a05a0a43a50895125ea5cb29469138c", func := "loop.example/stilmach/laws.FnActEdge", spec := "fnActEdge", inPlace := ["math.Float64frombits", "math.Float64bits"], apart := false }
def FnActEdgeSaid : Prop := fnActEdgeRow.holds Try.pinned (OpenSpec.ofChange fnActEdgeSpec)

/-- ITS FALSE NEIGHBOUR: 'it returns false'. Refute it at one input. -/
def fnActEdgeWrong : ChangeSpec := { name := "fnActEdge", fn := fun _ => fun
  | [d] => { results := [.lit (.bool false)], args := [d] }
  | _ => none }
def FnActEdgeWrongFalsely : Prop := fnActEdgeRow.holds Try.pinned (OpenSpec.ofChange fnActEdgeWrong)

/-- 'laws.FnActCount': WHATEVER THE INPUT: true; the input reads as it did. -/
def fnActCountSpec : ChangeSpec := { name := "fnActCount", fn := fun _ => fun
  | [d] => { results := [.lit (.bool true)], args := [d] }
  | _ => none }
def fnActCountRow : OpenClaim := { program := "yteigfllcmdkboaa", sum := "227955761c70170dded819a8d94e03ec6a05a0a43a50895125ea5cb29469138c", func := "loop.example/stilmach/laws.FnActCount", spec := "fnActCount", inPlace := ["math.Float64frombits", "math.Float64bits", "math.archTrunc"], apart := false }
def FnActCountSaid : Prop := fnActCountRow.holds Try.pinned (OpenSpec.ofChange fnActCountSpec)

/-- ITS FALSE NEIGHBOUR: 'it returns false'. Refute it at one input. -/
def fnActCountWrong : ChangeSpec := { name := "fnActCount", fn := fun _ => fun
  | [d] => { results := [.lit (.bool false)], args := [d] }
  | _ => none }
def FnActCountWrongFalsely : Prop := fnActCountRow.holds Try.pinned (OpenSpec.ofChange fnActCountWrong)

/-- 'laws.FnActTimer': WHATEVER THE INPUT: true; the input reads as it did. -/
def fnActTimerSpec : ChangeSpec := { name := "fnActTimer", fn := fun _ => fun
  | [d] => { results := [.lit (.bool true)], args := [d] }
  | _ => none }
def fnActTimerRow : OpenClaim := { program := "yteigfllcmdkboaa", sum := "227955761c70170dded819a8d94e03ec6a05a0a43a50895125ea5cb29469138c", func := "loop.example/stilmach/laws.FnActTimer", spec := "fnActTimer", inPlace := ["math.Float64frombits", "math.Float64bits", "math.archTrunc"], apart := false }
def FnActTimerSaid : Prop := fnActTimerRow.holds Try.pinned (OpenSpec.ofChange fnActTimerSpec)

/-- ITS FALSE NEIGHBOUR: 'it returns false'. Refute it at one input. -/
def fnActTimerWrong : ChangeSpec := { name := "fnActTimer", fn := fun _ => fun
  | [d] => { results := [.lit (.bool false)], args := [d] }
  | _ => none }
def FnActTimerWrongFalsely : Prop := fnActTimerRow.holds Try.pinned (OpenSpec.ofChange fnActTimerWrong)

/-- 'laws.FnActStep': WHATEVER THE INPUT: true; the input reads as it did. -/
def fnActStepSpec : ChangeSpec := { name := "fnActStep", fn := fun _ => fun
  | [d] => { results := [.lit (.bool true)], args := [d] }
  | _ => none }
def fnActStepRow : OpenClaim := { program := "yteigfllcmdkboaa", sum := "227955761c70170dded819a8d94e03ec6a05a0a43a50895125ea5cb29469138c", func := "loop.example/stilmach/laws.FnActStep", spec := "fnActStep", inPlace := ["math.Float64frombits", "math.Float64bits", "math.archTrunc"], apart := false }
def FnActStepSaid : Prop := fnActStepRow.holds Try.pinned (OpenSpec.ofChange fnActStepSpec)

/-- ITS FALSE NEIGHBOUR: 'it returns false'. Refute it at one input. -/
def fnActStepWrong : ChangeSpec := { name := "fnActStep", fn := fun _ => fun
  | [d] => { results := [.lit (.bool false)], args := [d] }
  | _ => none }
def FnActStepWrongFalsely : Prop := fnActStepRow.holds Try.pinned (OpenSpec.ofChange fnActStepWrong)

/-- 'laws.FnExactActTest': WHATEVER THE INPUT: true; the input reads as it did. -/
def fnExactActTestSpec : ChangeSpec := { name := "fnExactActTest", fn := fun _ => fun
  | [d1, d2] => { results := [.lit (.bool true)], args := [d1, d2] }
  | _ => none }
def fnExactActTestRow : OpenClaim := { program := "yteigfllcmdkboaa", sum := "227955761c70170dded819a8d94e03ec6a05a0a43a50895125ea5cb29469138c", func := "loop.example/stilmach/laws.FnExactActTest", spec := "fnExactActTest", inPlace := ["math.Float64frombits", "math.Float64bits"], apart := false }
def FnExactActTestSaid : Prop := fnExactActTestRow.holds Try.pinned (OpenSpec.ofChange fnExactActTestSpec)

/-- ITS FALSE NEIGHBOUR: 'it returns false'. Refute it at one input. -/
def fnExactActTestWrong : ChangeSpec := { name := "fnExactActTest", fn := fun _ => fun
  | [d1, d2] => { results := [.lit (.bool false)], args := [d1, d2] }
  | _ => none }
def FnExactActTestWrongFalsely : Prop := fnExactActTestRow.holds Try.pinned (OpenSpec.ofChange fnExactActTestWrong)

/-- 'laws.FnActShut': WHATEVER THE INPUT: true; the input reads as it did. -/
def fnActShutSpec : ChangeSpec := { name := "fnActShut", fn := fun _ => fun
  | [d] => { results := [.lit (.bool true)], args := [d] }
  | _ => none }
def fnActShutRow : OpenClaim := { program := "yteigfllcmdkboaa", sum := "227955761c70170dded819a8d94e03ec6a05a0a43a50895125ea5cb29469138c", func := "loop.example/stilmach/laws.FnActShut", spec := "fnActShut", inPlace := ["math.Float64frombits", "math.Float64bits"], apart := false }
def FnActShutSaid : Prop := fnActShutRow.holds Try.pinned (OpenSpec.ofChange fnActShutSpec)

/-- ITS FALSE NEIGHBOUR: 'it returns false'. Refute it at one input. -/
def fnActShutWrong : ChangeSpec := { name := "fnActShut", fn := fun _ => fun
  | [d] => { results := [.lit (.bool false)], args := [d] }
  | _ => none }
def FnActShutWrongFalsely : Prop := fnActShutRow.holds Try.pinned (OpenSpec.ofChange fnActShutWrong)

/-- 'laws.FnExactActDo': WHATEVER THE INPUT: true; the input reads as it did. -/
def fnExactActDoSpec : ChangeSpec := { name := "fnExactActDo", fn := fun _ => fun
  | [d1, d2, d3, d4] => { results := [.lit (.bool true)], args := [d1, d2, d3, d4] }
  | _ => none }
def fnExactActDoRow : OpenClaim := { program := "yteigfllcmdkboaa", sum := "227955761c70170dded819a8d94e03ec6a05a0a43a50895125ea5cb29469138c", func := "loop.example/stilmach/laws.FnExactActDo", spec := "fnExactActDo", inPlace := ["math.Float64frombits", "math.Float64bits", "math.archTrunc"], apart := false }
def FnExactActDoSaid : Prop := fnExactActDoRow.holds Try.pinned (OpenSpec.ofChange fnExactActDoSpec)

/-- ITS FALSE NEIGHBOUR: 'it returns false'. Refute it at one input. -/
def fnExactActDoWrong : ChangeSpec := { name := "fnExactActDo", fn := fun _ => fun
  | [d1, d2, d3, d4] => { results := [.lit (.bool false)], args := [d1, d2, d3, d4] }
  | _ => none }
def FnExactActDoWrongFalsely : Prop := fnExactActDoRow.holds Try.pinned (OpenSpec.ofChange fnExactActDoWrong)

/-- 'laws.FnActReach': WHATEVER THE INPUT: true; the input reads as it did. -/
def fnActReachSpec : ChangeSpec := { name := "fnActReach", fn := fun _ => fun
  | [d] => { results := [.lit (.bool true)], args := [d] }
  | _ => none }
def fnActReachRow : OpenClaim := { program := "yteigfllcmdkboaa", sum := "227955761c70170dded819a8d94e03ec6a05a0a43a50895125ea5cb29469138c", func := "loop.example/stilmach/laws.FnActReach", spec := "fnActReach", inPlace := ["math.Float64frombits", "math.Float64bits", "math.archTrunc"], recurses := true, apart := false }
def FnActReachSaid : Prop := fnActReachRow.holds Try.pinned (OpenSpec.ofChange fnActReachSpec)

/-- ITS FALSE NEIGHBOUR: 'it returns false'. Refute it at one input. -/
def fnActReachWrong : ChangeSpec := { name := "fnActReach", fn := fun _ => fun
  | [d] => { results := [.lit (.bool false)], args := [d] }
  | _ => none }
def FnActReachWrongFalsely : Prop := fnActReachRow.holds Try.pinned (OpenSpec.ofChange fnActReachWrong)

/- THE SECOND FORM. 'bulk': how many values and letters a reading holds, each counted each time it is reached (what is shared counts as often as it is met; a slice's spare places count too). A statement '..UptoSaid' is the law's where the arguments, and the package variables that the reading takes, are together of bulk at most 1048576: NARROWER than '..Said'. Prove '..Said' where nothing that the law and all that it calls make is longer than what came in: it says more and counts as full. Else prove '..UptoSaid'. A law counts once. -/
mutual
def uptoBulk {H : Type} : DataW H → Nat
  | .lit (.string bytes) => bytes.length + 1
  | .lit _ => 1
  | .nil => 1
  | .ptr d => uptoBulk d + 1
  | .slice elems spare => uptoBulkAll elems + uptoBulkAll spare + 1
  | .agg parts => uptoBulkAll parts + 1
  | .iface _ d => uptoBulk d + 1
  | .map entries => uptoBulkEntries entries + 1
  | .held _ => 1
def uptoBulkAll {H : Type} : List (DataW H) → Nat
  | [] => 0
  | d :: r => uptoBulk d + uptoBulkAll r
def uptoBulkEntries {H : Type} : List (Lit × DataW H) → Nat
  | [] => 0
  | x :: r => uptoBulkEntry x + uptoBulkEntries r
def uptoBulkEntry {H : Type} : Lit × DataW H → Nat
  | (.string bytes, d) => bytes.length + uptoBulk d + 1
  | (_, d) => uptoBulk d + 1
 end
def uptoSmall : (H : Type) → List (DataW H) → Bool := fun _ ds => decide (uptoBulkAll ds ≤ 1048576)
def OpenSpec.upto (s : _root_.Go.ChangeSpec) : _root_.Go.OpenSpec := { _root_.Go.OpenSpec.ofChange s with cond := some uptoSmall }

/-- 'laws.FnActEdge', WHERE WHAT IT READS IS OF BULK AT MOST 1048576: true; the input reads as it did. -/
def fnActEdgeUptoRow : OpenClaim := { program := "yteigfllcmdkboaa", sum := "227955761c70170dded819a8d94e03ec6a05a0a43a50895125ea5cb29469138c", func := "loop.example/stilmach/laws.FnActEdge", spec := "fnActEdge", inPlace := ["math.Float64frombits", "math.Float64bits"], apart := false, narrowed := true }
def FnActEdgeUptoSaid : Prop := fnActEdgeUptoRow.holds Try.pinned (OpenSpec.upto fnActEdgeSpec)

/-- 'laws.FnActCount', WHERE WHAT IT READS IS OF BULK AT MOST 1048576: true; the input reads as it did. -/
def fnActCountUptoRow : OpenClaim := { program := "yteigfllcmdkboaa", sum := "227955761c70170dded819a8d94e03ec6a05a0a43a50895125ea5cb29469138c", func := "loop.example/stilmach/laws.FnActCount", spec := "fnActCount", inPlace := ["math.Float64frombits", "math.Float64bits", "math.archTrunc"], apart := false, narrowed := true }
def FnActCountUptoSaid : Prop := fnActCountUptoRow.holds Try.pinned (OpenSpec.upto fnActCountSpec)

/-- 'laws.FnActTimer', WHERE WHAT IT READS IS OF BULK AT MOST 1048576: true; the input reads as it did. -/
def fnActTimerUptoRow : OpenClaim := { program := "yteigfllcmdkboaa", sum := "227955761c70170dded819a8d94e03ec6a05a0a43a50895125ea5cb29469138c", func := "loop.example/stilmach/laws.FnActTimer", spec := "fnActTimer", inPlace := ["math.Float64frombits", "math.Float64bits", "math.archTrunc"], apart := false, narrowed := true }
def FnActTimerUptoSaid : Prop := fnActTimerUptoRow.holds Try.pinned (OpenSpec.upto fnActTimerSpec)

/-- 'laws.FnActStep', WHERE WHAT IT READS IS OF BULK AT MOST 1048576: true; the input reads as it did. -/
def fnActStepUptoRow : OpenClaim := { program := "yteigfllcmdkboaa", sum := "227955761c70170dded819a8d94e03ec6a05a0a43a50895125ea5cb29469138c", func := "loop.example/stilmach/laws.FnActStep", spec := "fnActStep", inPlace := ["math.Float64frombits", "math.Float64bits", "math.archTrunc"], apart := false, narrowed := true }
def FnActStepUptoSaid : Prop := fnActStepUptoRow.holds Try.pinned (OpenSpec.upto fnActStepSpec)

/-- 'laws.FnExactActTest', WHERE WHAT IT READS IS OF BULK AT MOST 1048576: true; the input reads as it did. -/
def fnExactActTestUptoRow : OpenClaim := { program := "yteigfllcmdkboaa", sum := "227955761c70170dded819a8d94e03ec6a05a0a43a50895125ea5cb29469138c", func := "loop.example/stilmach/laws.FnExactActTest", spec := "fnExactActTest", inPlace := ["math.Float64frombits", "math.Float64bits"], apart := false, narrowed := true }
def FnExactActTestUptoSaid : Prop := fnExactActTestUptoRow.holds Try.pinned (OpenSpec.upto fnExactActTestSpec)

/-- 'laws.FnActShut', WHERE WHAT IT READS IS OF BULK AT MOST 1048576: true; the input reads as it did. -/
def fnActShutUptoRow : OpenClaim := { program := "yteigfllcmdkboaa", sum := "227955761c70170dded819a8d94e03ec6a05a0a43a50895125ea5cb29469138c", func := "loop.example/stilmach/laws.FnActShut", spec := "fnActShut", inPlace := ["math.Float64frombits", "math.Float64bits"], apart := false, narrowed := true }
def FnActShutUptoSaid : Prop := fnActShutUptoRow.holds Try.pinned (OpenSpec.upto fnActShutSpec)

/-- 'laws.FnExactActDo', WHERE WHAT IT READS IS OF BULK AT MOST 1048576: true; the input reads as it did. -/
def fnExactActDoUptoRow : OpenClaim := { program := "yteigfllcmdkboaa", sum := "227955761c70170dded819a8d94e03ec6a05a0a43a50895125ea5cb29469138c", func := "loop.example/stilmach/laws.FnExactActDo", spec := "fnExactActDo", inPlace := ["math.Float64frombits", "math.Float64bits", "math.archTrunc"], apart := false, narrowed := true }
def FnExactActDoUptoSaid : Prop := fnExactActDoUptoRow.holds Try.pinned (OpenSpec.upto fnExactActDoSpec)

/-- 'laws.FnActReach', WHERE WHAT IT READS IS OF BULK AT MOST 1048576: true; the input reads as it did. -/
def fnActReachUptoRow : OpenClaim := { program := "yteigfllcmdkboaa", sum := "227955761c70170dded819a8d94e03ec6a05a0a43a50895125ea5cb29469138c", func := "loop.example/stilmach/laws.FnActReach", spec := "fnActReach", inPlace := ["math.Float64frombits", "math.Float64bits", "math.archTrunc"], recurses := true, apart := false, narrowed := true }
def FnActReachUptoSaid : Prop := fnActReachUptoRow.holds Try.pinned (OpenSpec.upto fnActReachSpec)

end Rows
end Go.Proofs.Yteigfllcmdkboaa
