/-
  No cell of these rows narrows 'for every input' (looked for: loops, veiled, ifaces, maps, wideKeys, modest, calm, conditions, laid).
  DERIVED. THE GIVEN ROWS OF THIS SEAT. 15 by the template 'for every input the law returns true; each argument reads behind the call as it read before'; 0 by the template 'total and deterministic' (their statements: YtmiicjgbhkjocaaTotals.lean).
  GIVEN WITH THE SEED: the statements are not yours to turn. If you find one false, say at which input.
  Laid BY PROGRAM, IN A SANDBOX (cutbox-rows.mjs): the forced cells as the released guide's own fill.sh prints them over the translation 4b4ccd2e31f3e1cf… (all of the seat's roots in one cut). By AI agents, Wed Nov 11 2026. No macro, syntax, notation, axiom, sorry.
-/
import Derived.Test.YtmiicjgbhkjocaaChecked
import GoSem.Claim
import GoSem.ClaimJoined
import GoSem.ClaimMapViews
import Derived.JoinedTies
import Derived.KernelRfl
namespace Go.Proofs.Ytmiicjgbhkjocaa
/- THE CELL 'sum', in the pinned program and in every row, IS THE sha256 OF THE DUMP (.gsa) THAT YtmiicjgbhkjocaaProg.lean LOADS. Nothing in Lean hashes anything: it is a label: what it is worth is what the hold of that sum in a sandbox is worth. -/
noncomputable def Try.pinned : Pinned := { name := "ytmiicjgbhkjocaa", sum := "4b4ccd2e31f3e1cf2779c15f7f51e35cb0be7efe7453892b2e2a1c47e030b71e", checked := Try.checked }
namespace Rows
def none {H : Type} : Left H := { results := [], args := [] }

/-- 'laws.FnExactMemSame': WHATEVER THE INPUT: true; the input reads as it did. -/
def fnExactMemSameSpec : ChangeSpec := { name := "fnExactMemSame", fn := fun _ => fun
  | [d1, d2] => { results := [.lit (.bool true)], args := [d1, d2] }
  | _ => none }
def fnExactMemSameRow : OpenClaim := { program := "ytmiicjgbhkjocaa", sum := "4b4ccd2e31f3e1cf2779c15f7f51e35cb0be7efe7453892b2e2a1c47e030b71e", func := "loop.example/stilmach/laws.FnExactMemSame", spec := "fnExactMemSame", inPlace := ["math.Float64bits"], recurses := true, apart := false }
def FnExactMemSameSaid : Prop := fnExactMemSameRow.holds Try.pinned (OpenSpec.ofChange fnExactMemSameSpec)

/-- ITS FALSE NEIGHBOUR: 'it returns false'. Refute it at one input. -/
def fnExactMemSameWrong : ChangeSpec := { name := "fnExactMemSame", fn := fun _ => fun
  | [d1, d2] => { results := [.lit (.bool false)], args := [d1, d2] }
  | _ => none }
def FnExactMemSameWrongFalsely : Prop := fnExactMemSameRow.holds Try.pinned (OpenSpec.ofChange fnExactMemSameWrong)

/-- 'laws.FnMemPutNumber': WHATEVER THE INPUT: true; the input reads as it did. -/
def fnMemPutNumberSpec : ChangeSpec := { name := "fnMemPutNumber", fn := fun _ => fun
  | [d1, d2] => { results := [.lit (.bool true)], args := [d1, d2] }
  | _ => none }
def fnMemPutNumberRow : OpenClaim := { program := "ytmiicjgbhkjocaa", sum := "4b4ccd2e31f3e1cf2779c15f7f51e35cb0be7efe7453892b2e2a1c47e030b71e", func := "loop.example/stilmach/laws.FnMemPutNumber", spec := "fnMemPutNumber", inPlace := ["math.Float64bits", "math.Float64frombits"], apart := false }
def FnMemPutNumberSaid : Prop := fnMemPutNumberRow.holds Try.pinned (OpenSpec.ofChange fnMemPutNumberSpec)

/-- ITS FALSE NEIGHBOUR: 'it returns false'. Refute it at one input. -/
def fnMemPutNumberWrong : ChangeSpec := { name := "fnMemPutNumber", fn := fun _ => fun
  | [d1, d2] => { results := [.lit (.bool false)], args := [d1, d2] }
  | _ => none }
def FnMemPutNumberWrongFalsely : Prop := fnMemPutNumberRow.holds Try.pinned (OpenSpec.ofChange fnMemPutNumberWrong)

/-- 'laws.FnMemPut': WHATEVER THE INPUT: true; the input reads as it did. -/
def fnMemPutSpec : ChangeSpec := { name := "fnMemPut", fn := fun _ => fun
  | [d1, d2] => { results := [.lit (.bool true)], args := [d1, d2] }
  | _ => none }
def fnMemPutRow : OpenClaim := { program := "ytmiicjgbhkjocaa", sum := "4b4ccd2e31f3e1cf2779c15f7f51e35cb0be7efe7453892b2e2a1c47e030b71e", func := "loop.example/stilmach/laws.FnMemPut", spec := "fnMemPut", inPlace := ["math.Float64bits"], apart := false }
def FnMemPutSaid : Prop := fnMemPutRow.holds Try.pinned (OpenSpec.ofChange fnMemPutSpec)

/-- ITS FALSE NEIGHBOUR: 'it returns false'. Refute it at one input. -/
def fnMemPutWrong : ChangeSpec := { name := "fnMemPut", fn := fun _ => fun
  | [d1, d2] => { results := [.lit (.bool false)], args := [d1, d2] }
  | _ => none }
def FnMemPutWrongFalsely : Prop := fnMemPutRow.holds Try.pinned (OpenSpec.ofChange fnMemPutWrong)

/-- 'laws.FnMemRound': WHATEVER THE INPUT: true; the input reads as it did. -/
def fnMemRoundSpec : ChangeSpec := { name := "fnMemRound", fn := fun _ => fun
  | [d] => { results := [.lit (.bool true)], args := [d] }
  | _ => none }
def fnMemRoundRow : OpenClaim := { program := "ytmiicjgbhkjocaa", sum := "4b4ccd2e31f3e1cf2779c15f7f51e35cb0be7efe7453892b2e2a1c47e030b71e", func := "loop.example/stilmach/laws.FnMemRound", spec := "fnMemRound", inPlace := ["math.Float64frombits", "math.Float64bits"], apart := false }
def FnMemRoundSaid : Prop := fnMemRoundRow.holds Try.pinned (OpenSpec.ofChange fnMemRoundSpec)

/-- ITS FALSE NEIGHBOUR: 'it returns false'. Refute it at one input. -/
def fnMemRoundWrong : ChangeSpec := { name := "fnMemRound", fn := fun _ => fun
  | [d] => { results := [.lit (.bool false)], args := [d] }
  | _ => none }
def FnMemRoundWrongFalsely : Prop := fnMemRoundRow.holds Try.pinned (OpenSpec.ofChange fnMemRoundWrong)

/-- 'laws.FnActCount': WHATEVER THE INPUT: true; the input reads as it did. -/
def fnActCountSpec : ChangeSpec := { name := "fnActCount", fn := fun _ => fun
  | [d] => { results := [.lit (.bool true)], args := [d] }
  | _ => none }
def fnActCountRow : OpenClaim := { program := "ytmiicjgbhkjocaa", sum := "4b4ccd2e31f3e1cf2779c15f7f51e35cb0be7efe7453892b2e2a1c47e030b71e", func := "loop.example/stilmach/laws.FnActCount", spec := "fnActCount", inPlace := ["math.Float64frombits", "math.Float64bits", "math.archTrunc"], apart := false }
def FnActCountSaid : Prop := fnActCountRow.holds Try.pinned (OpenSpec.ofChange fnActCountSpec)

/-- ITS FALSE NEIGHBOUR: 'it returns false'. Refute it at one input. -/
def fnActCountWrong : ChangeSpec := { name := "fnActCount", fn := fun _ => fun
  | [d] => { results := [.lit (.bool false)], args := [d] }
  | _ => none }
def FnActCountWrongFalsely : Prop := fnActCountRow.holds Try.pinned (OpenSpec.ofChange fnActCountWrong)

/-- 'laws.FnActTimer': WHATEVER THE INPUT: true; the input reads as it did. -/
def fnActTimerSpec : ChangeSpec := { name := "fnActTimer", fn := fun _ => fun
  | [d] => { results := [.lit (.bool true)], args := [d] }
  | _ => none }
def fnActTimerRow : OpenClaim := { program := "ytmiicjgbhkjocaa", sum := "4b4ccd2e31f3e1cf2779c15f7f51e35cb0be7efe7453892b2e2a1c47e030b71e", func := "loop.example/stilmach/laws.FnActTimer", spec := "fnActTimer", inPlace := ["math.Float64frombits", "math.Float64bits", "math.archTrunc"], apart := false }
def FnActTimerSaid : Prop := fnActTimerRow.holds Try.pinned (OpenSpec.ofChange fnActTimerSpec)

/-- ITS FALSE NEIGHBOUR: 'it returns false'. Refute it at one input. -/
def fnActTimerWrong : ChangeSpec := { name := "fnActTimer", fn := fun _ => fun
  | [d] => { results := [.lit (.bool false)], args := [d] }
  | _ => none }
def FnActTimerWrongFalsely : Prop := fnActTimerRow.holds Try.pinned (OpenSpec.ofChange fnActTimerWrong)

/-- 'laws.FnActStep': WHATEVER THE INPUT: true; the input reads as it did. -/
def fnActStepSpec : ChangeSpec := { name := "fnActStep", fn := fun _ => fun
  | [d] => { results := [.lit (.bool true)], args := [d] }
  | _ => none }
def fnActStepRow : OpenClaim := { program := "ytmiicjgbhkjocaa", sum := "4b4ccd2e31f3e1cf2779c15f7f51e35cb0be7efe7453892b2e2a1c47e030b71e", func := "loop.example/stilmach/laws.FnActStep", spec := "fnActStep", inPlace := ["math.Float64frombits", "math.Float64bits", "math.archTrunc"], apart := false }
def FnActStepSaid : Prop := fnActStepRow.holds Try.pinned (OpenSpec.ofChange fnActStepSpec)

/-- ITS FALSE NEIGHBOUR: 'it returns false'. Refute it at one input. -/
def fnActStepWrong : ChangeSpec := { name := "fnActStep", fn := fun _ => fun
  | [d] => { results := [.lit (.bool false)], args := [d] }
  | _ => none }
def FnActStepWrongFalsely : Prop := fnActStepRow.holds Try.pinned (OpenSpec.ofChange fnActStepWrong)

/-- 'laws.FnActShut': WHATEVER THE INPUT: true; the input reads as it did. -/
def fnActShutSpec : ChangeSpec := { name := "fnActShut", fn := fun _ => fun
  | [d] => { results := [.lit (.bool true)], args := [d] }
  | _ => none }
def fnActShutRow : OpenClaim := { program := "ytmiicjgbhkjocaa", sum := "4b4ccd2e31f3e1cf2779c15f7f51e35cb0be7efe7453892b2e2a1c47e030b71e", func := "loop.example/stilmach/laws.FnActShut", spec := "fnActShut", inPlace := ["math.Float64frombits", "math.Float64bits"], apart := false }
def FnActShutSaid : Prop := fnActShutRow.holds Try.pinned (OpenSpec.ofChange fnActShutSpec)

/-- ITS FALSE NEIGHBOUR: 'it returns false'. Refute it at one input. -/
def fnActShutWrong : ChangeSpec := { name := "fnActShut", fn := fun _ => fun
  | [d] => { results := [.lit (.bool false)], args := [d] }
  | _ => none }
def FnActShutWrongFalsely : Prop := fnActShutRow.holds Try.pinned (OpenSpec.ofChange fnActShutWrong)

/-- 'laws.FnActReach': WHATEVER THE INPUT: true; the input reads as it did. -/
def fnActReachSpec : ChangeSpec := { name := "fnActReach", fn := fun _ => fun
  | [d] => { results := [.lit (.bool true)], args := [d] }
  | _ => none }
def fnActReachRow : OpenClaim := { program := "ytmiicjgbhkjocaa", sum := "4b4ccd2e31f3e1cf2779c15f7f51e35cb0be7efe7453892b2e2a1c47e030b71e", func := "loop.example/stilmach/laws.FnActReach", spec := "fnActReach", inPlace := ["math.Float64frombits", "math.Float64bits", "math.archTrunc"], recurses := true, apart := false }
def FnActReachSaid : Prop := fnActReachRow.holds Try.pinned (OpenSpec.ofChange fnActReachSpec)

/-- ITS FALSE NEIGHBOUR: 'it returns false'. Refute it at one input. -/
def fnActReachWrong : ChangeSpec := { name := "fnActReach", fn := fun _ => fun
  | [d] => { results := [.lit (.bool false)], args := [d] }
  | _ => none }
def FnActReachWrongFalsely : Prop := fnActReachRow.holds Try.pinned (OpenSpec.ofChange fnActReachWrong)

/-- 'laws.FnExactSureTrace': WHATEVER THE INPUT: true; the input reads as it did. -/
def fnExactSureTraceSpec : ChangeSpec := { name := "fnExactSureTrace", fn := fun _ => fun
  | [d] => { results := [.lit (.bool true)], args := [d] }
  | _ => none }
def fnExactSureTraceRow : OpenClaim := { program := "ytmiicjgbhkjocaa", sum := "4b4ccd2e31f3e1cf2779c15f7f51e35cb0be7efe7453892b2e2a1c47e030b71e", func := "loop.example/stilmach/laws.FnExactSureTrace", spec := "fnExactSureTrace", apart := false }
def FnExactSureTraceSaid : Prop := fnExactSureTraceRow.holds Try.pinned (OpenSpec.ofChange fnExactSureTraceSpec)

/-- ITS FALSE NEIGHBOUR: 'it returns false'. Refute it at one input. -/
def fnExactSureTraceWrong : ChangeSpec := { name := "fnExactSureTrace", fn := fun _ => fun
  | [d] => { results := [.lit (.bool false)], args := [d] }
  | _ => none }
def FnExactSureTraceWrongFalsely : Prop := fnExactSureTraceRow.holds Try.pinned (OpenSpec.ofChange fnExactSureTraceWrong)

/-- 'laws.FnExactSureRungs': WHATEVER THE INPUT: true; the input reads as it did. -/
def fnExactSureRungsSpec : ChangeSpec := { name := "fnExactSureRungs", fn := fun _ => fun
  | [d] => { results := [.lit (.bool true)], args := [d] }
  | _ => none }
def fnExactSureRungsRow : OpenClaim := { program := "ytmiicjgbhkjocaa", sum := "4b4ccd2e31f3e1cf2779c15f7f51e35cb0be7efe7453892b2e2a1c47e030b71e", func := "loop.example/stilmach/laws.FnExactSureRungs", spec := "fnExactSureRungs", unfollowed := true, recurses := true, apart := false }
def FnExactSureRungsSaid : Prop := fnExactSureRungsRow.holds Try.pinned (OpenSpec.ofChange fnExactSureRungsSpec)

/-- ITS FALSE NEIGHBOUR: 'it returns false'. Refute it at one input. -/
def fnExactSureRungsWrong : ChangeSpec := { name := "fnExactSureRungs", fn := fun _ => fun
  | [d] => { results := [.lit (.bool false)], args := [d] }
  | _ => none }
def FnExactSureRungsWrongFalsely : Prop := fnExactSureRungsRow.holds Try.pinned (OpenSpec.ofChange fnExactSureRungsWrong)

/-- 'laws.FnSurePeak': WHATEVER THE INPUT: true; the input reads as it did. -/
def fnSurePeakSpec : ChangeSpec := { name := "fnSurePeak", fn := fun _ => fun
  | [d] => { results := [.lit (.bool true)], args := [d] }
  | _ => none }
def fnSurePeakRow : OpenClaim := { program := "ytmiicjgbhkjocaa", sum := "4b4ccd2e31f3e1cf2779c15f7f51e35cb0be7efe7453892b2e2a1c47e030b71e", func := "loop.example/stilmach/laws.FnSurePeak", spec := "fnSurePeak", apart := false }
def FnSurePeakSaid : Prop := fnSurePeakRow.holds Try.pinned (OpenSpec.ofChange fnSurePeakSpec)

/-- ITS FALSE NEIGHBOUR: 'it returns false'. Refute it at one input. -/
def fnSurePeakWrong : ChangeSpec := { name := "fnSurePeak", fn := fun _ => fun
  | [d] => { results := [.lit (.bool false)], args := [d] }
  | _ => none }
def FnSurePeakWrongFalsely : Prop := fnSurePeakRow.holds Try.pinned (OpenSpec.ofChange fnSurePeakWrong)

/-- 'laws.FnSureFirst': WHATEVER THE INPUT: true; the input reads as it did. -/
def fnSureFirstSpec : ChangeSpec := { name := "fnSureFirst", fn := fun _ => fun
  | [d1, d2] => { results := [.lit (.bool true)], args := [d1, d2] }
  | _ => none }
def fnSureFirstRow : OpenClaim := { program := "ytmiicjgbhkjocaa", sum := "4b4ccd2e31f3e1cf2779c15f7f51e35cb0be7efe7453892b2e2a1c47e030b71e", func := "loop.example/stilmach/laws.FnSureFirst", spec := "fnSureFirst", unfollowed := true, recurses := true, apart := false }
def FnSureFirstSaid : Prop := fnSureFirstRow.holds Try.pinned (OpenSpec.ofChange fnSureFirstSpec)

/-- ITS FALSE NEIGHBOUR: 'it returns false'. Refute it at one input. -/
def fnSureFirstWrong : ChangeSpec := { name := "fnSureFirst", fn := fun _ => fun
  | [d1, d2] => { results := [.lit (.bool false)], args := [d1, d2] }
  | _ => none }
def FnSureFirstWrongFalsely : Prop := fnSureFirstRow.holds Try.pinned (OpenSpec.ofChange fnSureFirstWrong)

/-- 'laws.FnSureTop': WHATEVER THE INPUT: true; the input reads as it did. -/
def fnSureTopSpec : ChangeSpec := { name := "fnSureTop", fn := fun _ => fun
  | [d] => { results := [.lit (.bool true)], args := [d] }
  | _ => none }
def fnSureTopRow : OpenClaim := { program := "ytmiicjgbhkjocaa", sum := "4b4ccd2e31f3e1cf2779c15f7f51e35cb0be7efe7453892b2e2a1c47e030b71e", func := "loop.example/stilmach/laws.FnSureTop", spec := "fnSureTop", unfollowed := true, recurses := true, apart := false }
def FnSureTopSaid : Prop := fnSureTopRow.holds Try.pinned (OpenSpec.ofChange fnSureTopSpec)

/-- ITS FALSE NEIGHBOUR: 'it returns false'. Refute it at one input. -/
def fnSureTopWrong : ChangeSpec := { name := "fnSureTop", fn := fun _ => fun
  | [d] => { results := [.lit (.bool false)], args := [d] }
  | _ => none }
def FnSureTopWrongFalsely : Prop := fnSureTopRow.holds Try.pinned (OpenSpec.ofChange fnSureTopWrong)

/-- 'laws.FnSureJoin': WHATEVER THE INPUT: true; the input reads as it did. -/
def fnSureJoinSpec : ChangeSpec := { name := "fnSureJoin", fn := fun _ => fun
  | [d1, d2] => { results := [.lit (.bool true)], args := [d1, d2] }
  | _ => none }
def fnSureJoinRow : OpenClaim := { program := "ytmiicjgbhkjocaa", sum := "4b4ccd2e31f3e1cf2779c15f7f51e35cb0be7efe7453892b2e2a1c47e030b71e", func := "loop.example/stilmach/laws.FnSureJoin", spec := "fnSureJoin", unfollowed := true, recurses := true, apart := false }
def FnSureJoinSaid : Prop := fnSureJoinRow.holds Try.pinned (OpenSpec.ofChange fnSureJoinSpec)

/-- ITS FALSE NEIGHBOUR: 'it returns false'. Refute it at one input. -/
def fnSureJoinWrong : ChangeSpec := { name := "fnSureJoin", fn := fun _ => fun
  | [d1, d2] => { results := [.lit (.bool false)], args := [d1, d2] }
  | _ => none }
def FnSureJoinWrongFalsely : Prop := fnSureJoinRow.holds Try.pinned (OpenSpec.ofChange fnSureJoinWrong)

/- THE SECOND FORM. 'bulk': how many values and letters a reading holds, each counted each time it is reached (what is shared counts as often as it is met; a slice's spare places count too). A statement '..UptoSaid' is the law's where the arguments, and the package variables that the reading takes, are together of bulk at most 1048576: NARROWER than '..Said'. Prove '..Said' where nothing that the law and all that it calls make is longer than what came in: it says more and counts as full. Else prove '..UptoSaid'. A law counts once. -/
mutual
def uptoBulk {H : Type} : DataW H → Nat
  | .lit (.string bytes) => bytes.length + 1
  | .lit _ => 1
  | .nil => 1
  | .ptr d => uptoBulk d + 1
  | .slice elems spare => uptoBulkAll elems + uptoBulkAll spare + 1
  | .agg parts => uptoBulkAll parts + 1
  | .iface _ d => uptoBulk d + 1
  | .map entries => uptoBulkEntries entries + 1
  | .held _ => 1
def uptoBulkAll {H : Type} : List (DataW H) → Nat
  | [] => 0
  | d :: r => uptoBulk d + uptoBulkAll r
def uptoBulkEntries {H : Type} : List (Lit × DataW H) → Nat
  | [] => 0
  | x :: r => uptoBulkEntry x + uptoBulkEntries r
def uptoBulkEntry {H : Type} : Lit × DataW H → Nat
  | (.string bytes, d) => bytes.length + uptoBulk d + 1
  | (_, d) => uptoBulk d + 1
 end
def uptoSmall : (H : Type) → List (DataW H) → Bool := fun _ ds => decide (uptoBulkAll ds ≤ 1048576)
def OpenSpec.upto (s : _root_.Go.ChangeSpec) : _root_.Go.OpenSpec := { _root_.Go.OpenSpec.ofChange s with cond := some uptoSmall }

/-- 'laws.FnExactMemSame', WHERE WHAT IT READS IS OF BULK AT MOST 1048576: true; the input reads as it did. -/
def fnExactMemSameUptoRow : OpenClaim := { program := "ytmiicjgbhkjocaa", sum := "4b4ccd2e31f3e1cf2779c15f7f51e35cb0be7efe7453892b2e2a1c47e030b71e", func := "loop.example/stilmach/laws.FnExactMemSame", spec := "fnExactMemSame", inPlace := ["math.Float64bits"], recurses := true, apart := false, narrowed := true }
def FnExactMemSameUptoSaid : Prop := fnExactMemSameUptoRow.holds Try.pinned (OpenSpec.upto fnExactMemSameSpec)

/-- 'laws.FnMemPutNumber', WHERE WHAT IT READS IS OF BULK AT MOST 1048576: true; the input reads as it did. -/
def fnMemPutNumberUptoRow : OpenClaim := { program := "ytmiicjgbhkjocaa", sum := "4b4ccd2e31f3e1cf2779c15f7f51e35cb0be7efe7453892b2e2a1c47e030b71e", func := "loop.example/stilmach/laws.FnMemPutNumber", spec := "fnMemPutNumber", inPlace := ["math.Float64bits", "math.Float64frombits"], apart := false, narrowed := true }
def FnMemPutNumberUptoSaid : Prop := fnMemPutNumberUptoRow.holds Try.pinned (OpenSpec.upto fnMemPutNumberSpec)

/-- 'laws.FnMemPut', WHERE WHAT IT READS IS OF BULK AT MOST 1048576: true; the input reads as it did. -/
def fnMemPutUptoRow : OpenClaim := { program := "ytmiicjgbhkjocaa", sum := "4b4ccd2e31f3e1cf2779c15f7f51e35cb0be7efe7453892b2e2a1c47e030b71e", func := "loop.example/stilmach/laws.FnMemPut", spec := "fnMemPut", inPlace := ["math.Float64bits"], apart := false, narrowed := true }
def FnMemPutUptoSaid : Prop := fnMemPutUptoRow.holds Try.pinned (OpenSpec.upto fnMemPutSpec)

/-- 'laws.FnMemRound', WHERE WHAT IT READS IS OF BULK AT MOST 1048576: true; the input reads as it did. -/
def fnMemRoundUptoRow : OpenClaim := { program := "ytmiicjgbhkjocaa", sum := "4b4ccd2e31f3e1cf2779c15f7f51e35cb0be7efe7453892b2e2a1c47e030b71e", func := "loop.example/stilmach/laws.FnMemRound", spec := "fnMemRound", inPlace := ["math.Float64frombits", "math.Float64bits"], apart := false, narrowed := true }
def FnMemRoundUptoSaid : Prop := fnMemRoundUptoRow.holds Try.pinned (OpenSpec.upto fnMemRoundSpec)

/-- 'laws.FnActCount', WHERE WHAT IT READS IS OF BULK AT MOST 1048576: true; the input reads as it did. -/
def fnActCountUptoRow : OpenClaim := { program := "ytmiicjgbhkjocaa", sum := "4b4ccd2e31f3e1cf2779c15f7f51e35cb0be7efe7453892b2e2a1c47e030b71e", func := "loop.example/stilmach/laws.FnActCount", spec := "fnActCount", inPlace := ["math.Float64frombits", "math.Float64bits", "math.archTrunc"], apart := false, narrowed := true }
def FnActCountUptoSaid : Prop := fnActCountUptoRow.holds Try.pinned (OpenSpec.upto fnActCountSpec)

/-- 'laws.FnActTimer', WHERE WHAT IT READS IS OF BULK AT MOST 1048576: true; the input reads as it did. -/
def fnActTimerUptoRow : OpenClaim := { program := "ytmiicjgbhkjocaa", sum := "4b4ccd2e31f3e1cf2779c15f7f51e35cb0be7efe7453892b2e2a1c47e030b71e", func := "loop.example/stilmach/laws.FnActTimer", spec := "fnActTimer", inPlace := ["math.Float64frombits", "math.Float64bits", "math.archTrunc"], apart := false, narrowed := true }
def FnActTimerUptoSaid : Prop := fnActTimerUptoRow.holds Try.pinned (OpenSpec.upto fnActTimerSpec)

/-- 'laws.FnActStep', WHERE WHAT IT READS IS OF BULK AT MOST 1048576: true; the input reads as it did. -/
def fnActStepUptoRow : OpenClaim := { program := "ytmiicjgbhkjocaa", sum := "4b4ccd2e31f3e1cf2779c15f7f51e35cb0be7efe7453892b2e2a1c47e030b71e", func := "loop.example/stilmach/laws.FnActStep", spec := "fnActStep", inPlace := ["math.Float64frombits", "math.Float64bits", "math.archTrunc"], apart := false, narrowed := true }
def FnActStepUptoSaid : Prop := fnActStepUptoRow.holds Try.pinned (OpenSpec.upto fnActStepSpec)

/-- 'laws.FnActShut', WHERE WHAT IT READS IS OF BULK AT MOST 1048576: true; the input reads as it did. -/
def fnActShutUptoRow : OpenClaim := { program := "ytmiicjgbhkjocaa", sum := "4b4ccd2e31f3e1cf2779c15f7f51e35cb0be7efe7453892b2e2a1c47e030b71e", func := "loop.example/stilmach/laws.FnActShut", spec := "fnActShut", inPlace := ["math.Float64frombits", "math.Float64bits"], apart := false, narrowed := true }
def FnActShutUptoSaid : Prop := fnActShutUptoRow.holds Try.pinned (OpenSpec.upto fnActShutSpec)

/-- 'laws.FnActReach', WHERE WHAT IT READS IS OF BULK AT MOST 1048576: true; the input reads as it did. -/
def fnActReachUptoRow : OpenClaim := { program := "ytmiicjgbhkjocaa", sum := "4b4ccd2e31f3e1cf2779c15f7f51e35cb0be7efe7453892b2e2a1c47e030b71e", func := "loop.example/stilmach/laws.FnActReach", spec := "fnActReach", inPlace := ["math.Float64frombits", "math.Float64bits", "math.archTrunc"], recurses := true, apart := false, narrowed := true }
def FnActReachUptoSaid : Prop := fnActReachUptoRow.holds Try.pinned (OpenSpec.upto fnActReachSpec)

/-- 'laws.FnExactSureTrace', WHERE WHAT IT READS IS OF BULK AT MOST 1048576: true; the input reads as it did. -/
def fnExactSureTraceUptoRow : OpenClaim := { program := "ytmiicjgbhkjocaa", sum := "4b4ccd2e31f3e1cf2779c15f7f51e35cb0be7efe7453892b2e2a1c47e030b71e", func := "loop.example/stilmach/laws.FnExactSureTrace", spec := "fnExactSureTrace", apart := false, narrowed := true }
def FnExactSureTraceUptoSaid : Prop := fnExactSureTraceUptoRow.holds Try.pinned (OpenSpec.upto fnExactSureTraceSpec)

/-- 'laws.FnExactSureRungs', WHERE WHAT IT READS IS OF BULK AT MOST 1048576: true; the input reads as it did. -/
def fnExactSureRungsUptoRow : OpenClaim := { program := "ytmiicjgbhkjocaa", sum := "4b4ccd2e31f3e1cf2779c15f7f51e35cb0be7efe7453892b2e2a1c47e030b71e", func := "loop.example/stilmach/laws.FnExactSureRungs", spec := "fnExactSureRungs", unfollowed := true, recurses := true, apart := false, narrowed := true }
def FnExactSureRungsUptoSaid : Prop := fnExactSureRungsUptoRow.holds Try.pinned (OpenSpec.upto fnExactSureRungsSpec)

/-- 'laws.FnSurePeak', WHERE WHAT IT READS IS OF BULK AT MOST 1048576: true; the input reads as it did. -/
def fnSurePeakUptoRow : OpenClaim := { program := "ytmiicjgbhkjocaa", sum := "4b4ccd2e31f3e1cf2779c15f7f51e35cb0be7efe7453892b2e2a1c47e030b71e", func := "loop.example/stilmach/laws.FnSurePeak", spec := "fnSurePeak", apart := false, narrowed := true }
def FnSurePeakUptoSaid : Prop := fnSurePeakUptoRow.holds Try.pinned (OpenSpec.upto fnSurePeakSpec)

/-- 'laws.FnSureFirst', WHERE WHAT IT READS IS OF BULK AT MOST 1048576: true; the input reads as it did. -/
def fnSureFirstUptoRow : OpenClaim := { program := "ytmiicjgbhkjocaa", sum := "4b4ccd2e31f3e1cf2779c15f7f51e35cb0be7efe7453892b2e2a1c47e030b71e", func := "loop.example/stilmach/laws.FnSureFirst", spec := "fnSureFirst", unfollowed := true, recurses := true, apart := false, narrowed := true }
def FnSureFirstUptoSaid : Prop := fnSureFirstUptoRow.holds Try.pinned (OpenSpec.upto fnSureFirstSpec)

/-- 'laws.FnSureTop', WHERE WHAT IT READS IS OF BULK AT MOST 1048576: true; the input reads as it did. -/
def fnSureTopUptoRow : OpenClaim := { program := "ytmiicjgbhkjocaa", sum := "4b4ccd2e31f3e1cf2779c15f7f51e35cb0be7efe7453892b2e2a1c47e030b71e", func := "loop.example/stilmach/laws.FnSureTop", spec := "fnSureTop", unfollowed := true, recurses := true, apart := false, narrowed := true }
def FnSureTopUptoSaid : Prop := fnSureTopUptoRow.holds Try.pinned (OpenSpec.upto fnSureTopSpec)

/-- 'laws.FnSureJoin', WHERE WHAT IT READS IS OF BULK AT MOST 1048576: true; the input reads as it did. -/
def fnSureJoinUptoRow : OpenClaim := { program := "ytmiicjgbhkjocaa", sum := "4b4ccd2e31f3e1cf2779c15f7f51e35cb0be7efe7453892b2e2a1c47e030b71e", func := "loop.example/stilmach/laws.FnSureJoin", spec := "fnSureJoin", unfollowed := true, recurses := true, apart := false, narrowed := true }
def FnSureJoinUptoSaid : Prop := fnSureJoinUptoRow.holds Try.pinned (OpenSpec.upto fnSureJoinSpec)

end Rows
end Go.Proofs.Ytmiicjgbhkjocaa
