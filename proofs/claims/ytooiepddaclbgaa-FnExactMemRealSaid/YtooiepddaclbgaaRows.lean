/-
  No cell of these rows narrows 'for every input' (looked for: loops, veiled, ifaces, maps, wideKeys, modest, calm, conditions, laid).
  DERIVED. THE GIVEN ROWS OF THIS SEAT. 12 by the template 'for every input the law returns true; each argument reads behind the call as it read before'; 0 by the template 'total and deterministic' (their statements: YtooiepddaclbgaaTotals.lean).
  GIVEN WITH THE SEED: the statements are not yours to turn. If you find one false, say at which input.
  Laid BY PROGRAM, IN A SANDBOX (cutbox-rows.mjs): the forced cells as the released guide's own fill.sh prints them over the translation 5846b3a695612a27… (all of the seat's roots in one cut). By AI agents, Wed Nov 11 2026. No macro, syntax, notation, axiom, sorry.
-/
import Derived.Test.YtooiepddaclbgaaChecked
import GoSem.Claim
import GoSem.ClaimJoined
import GoSem.ClaimMapViews
import Derived.JoinedTies
import Derived.KernelRfl
namespace Go.Proofs.Ytooiepddaclbgaa
/- THE CELL 'sum', in the pinned program and in every row, IS THE sha256 OF THE DUMP (.gsa) THAT YtooiepddaclbgaaProg.lean LOADS. Nothing in Lean hashes anything: it is a label: what it is worth is what the hold of that sum in a sandbox is worth. -/
noncomputable def Try.pinned : Pinned := { name := "ytooiepddaclbgaa", sum := "5846b3a695612a27ccd59de8c0e353c08f9c72848179760b61fcf3a11edc8c4d", checked := Try.checked }
namespace Rows
def none {H : Type} : Left H := { results := [], args := [] }

/-- 'laws.FnExactMemSame': WHATEVER THE INPUT: true; the input reads as it did. -/
def fnExactMemSameSpec : ChangeSpec := { name := "fnExactMemSame", fn := fun _ => fun
  | [d1, d2] => { results := [.lit (.bool true)], args := [d1, d2] }
  | _ => none }
def fnExactMemSameRow : OpenClaim := { program := "ytooiepddaclbgaa", sum := "5846b3a695612a27ccd59de8c0e353c08f9c72848179760b61fcf3a11edc8c4d", func := "loop.example/stilmach/laws.FnExactMemSame", spec := "fnExactMemSame", inPlace := ["math.Float64bits"], recurses := true, apart := false }
def FnExactMemSameSaid : Prop := fnExactMemSameRow.holds Try.pinned (OpenSpec.ofChange fnExactMemSameSpec)

/-- ITS FALSE NEIGHBOUR: 'it returns false'. Refute it at one input. -/
def fnExactMemSameWrong : ChangeSpec := { name := "fnExactMemSame", fn := fun _ => fun
  | [d1, d2] => { results := [.lit (.bool false)], args := [d1, d2] }
  | _ => none }
def FnExactMemSameWrongFalsely : Prop := fnExactMemSameRow.holds Try.pinned (OpenSpec.ofChange fnExactMemSameWrong)

/-- 'laws.FnExactMemWhole': WHATEVER THE INPUT: true; the input reads as it did. -/
def fnExactMemWholeSpec : ChangeSpec := { name := "fnExactMemWhole", fn := fun _ => fun
  | [d1, d2] => { results := [.lit (.bool true)], args := [d1, d2] }
  | _ => none }
def fnExactMemWholeRow : OpenClaim := { program := "ytooiepddaclbgaa", sum := "5846b3a695612a27ccd59de8c0e353c08f9c72848179760b61fcf3a11edc8c4d", func := "loop.example/stilmach/laws.FnExactMemWhole", spec := "fnExactMemWhole", apart := false }
def FnExactMemWholeSaid : Prop := fnExactMemWholeRow.holds Try.pinned (OpenSpec.ofChange fnExactMemWholeSpec)

/-- ITS FALSE NEIGHBOUR: 'it returns false'. Refute it at one input. -/
def fnExactMemWholeWrong : ChangeSpec := { name := "fnExactMemWhole", fn := fun _ => fun
  | [d1, d2] => { results := [.lit (.bool false)], args := [d1, d2] }
  | _ => none }
def FnExactMemWholeWrongFalsely : Prop := fnExactMemWholeRow.holds Try.pinned (OpenSpec.ofChange fnExactMemWholeWrong)

/-- 'laws.FnExactActEnd': WHATEVER THE INPUT: true; the input reads as it did. -/
def fnExactActEndSpec : ChangeSpec := { name := "fnExactActEnd", fn := fun _ => fun
  | [d] => { results := [.lit (.bool true)], args := [d] }
  | _ => none }
def fnExactActEndRow : OpenClaim := { program := "ytooiepddaclbgaa", sum := "5846b3a695612a27ccd59de8c0e353c08f9c72848179760b61fcf3a11edc8c4d", func := "loop.example/stilmach/laws.FnExactActEnd", spec := "fnExactActEnd", apart := false }
def FnExactActEndSaid : Prop := fnExactActEndRow.holds Try.pinned (OpenSpec.ofChange fnExactActEndSpec)

/-- ITS FALSE NEIGHBOUR: 'it returns false'. Refute it at one input. -/
def fnExactActEndWrong : ChangeSpec := { name := "fnExactActEnd", fn := fun _ => fun
  | [d] => { results := [.lit (.bool false)], args := [d] }
  | _ => none }
def FnExactActEndWrongFalsely : Prop := fnExactActEndRow.holds Try.pinned (OpenSpec.ofChange fnExactActEndWrong)

/-- 'laws.FnExactMemBit': WHATEVER THE INPUT: true; the input reads as it did. -/
def fnExactMemBitSpec : ChangeSpec := { name := "fnExactMemBit", fn := fun _ => fun
  | [d1, d2] => { results := [.lit (.bool true)], args := [d1, d2] }
  | _ => none }
def fnExactMemBitRow : OpenClaim := { program := "ytooiepddaclbgaa", sum := "5846b3a695612a27ccd59de8c0e353c08f9c72848179760b61fcf3a11edc8c4d", func := "loop.example/stilmach/laws.FnExactMemBit", spec := "fnExactMemBit", apart := false }
def FnExactMemBitSaid : Prop := fnExactMemBitRow.holds Try.pinned (OpenSpec.ofChange fnExactMemBitSpec)

/-- ITS FALSE NEIGHBOUR: 'it returns false'. Refute it at one input. -/
def fnExactMemBitWrong : ChangeSpec := { name := "fnExactMemBit", fn := fun _ => fun
  | [d1, d2] => { results := [.lit (.bool false)], args := [d1, d2] }
  | _ => none }
def FnExactMemBitWrongFalsely : Prop := fnExactMemBitRow.holds Try.pinned (OpenSpec.ofChange fnExactMemBitWrong)

/-- 'laws.FnExactActStart': WHATEVER THE INPUT: true; the input reads as it did. -/
def fnExactActStartSpec : ChangeSpec := { name := "fnExactActStart", fn := fun _ => fun
  | [d1, d2] => { results := [.lit (.bool true)], args := [d1, d2] }
  | _ => none }
def fnExactActStartRow : OpenClaim := { program := "ytooiepddaclbgaa", sum := "5846b3a695612a27ccd59de8c0e353c08f9c72848179760b61fcf3a11edc8c4d", func := "loop.example/stilmach/laws.FnExactActStart", spec := "fnExactActStart", apart := false }
def FnExactActStartSaid : Prop := fnExactActStartRow.holds Try.pinned (OpenSpec.ofChange fnExactActStartSpec)

/-- ITS FALSE NEIGHBOUR: 'it returns false'. Refute it at one input. -/
def fnExactActStartWrong : ChangeSpec := { name := "fnExactActStart", fn := fun _ => fun
  | [d1, d2] => { results := [.lit (.bool false)], args := [d1, d2] }
  | _ => none }
def FnExactActStartWrongFalsely : Prop := fnExactActStartRow.holds Try.pinned (OpenSpec.ofChange fnExactActStartWrong)

/-- 'laws.FnExactMemReal': WHATEVER THE INPUT: true; the input reads as it did. -/
def fnExactMemRealSpec : ChangeSpec := { name := "fnExactMemReal", fn := fun _ => fun
  | [d1, d2] => { results := [.lit (.bool true)], args := [d1, d2] }
  | _ => none }
def fnExactMemRealRow : OpenClaim := { program := "ytooiepddaclbgaa", sum := "5846b3a695612a27ccd59de8c0e353c08f9c72848179760b61fcf3a11edc8c4d", func := "loop.example/stilmach/laws.FnExactMemReal", spec := "fnExactMemReal", inPlace := ["math.Float64frombits", "math.Float64bits"], apart := false }
def FnExactMemRealSaid : Prop := fnExactMemRealRow.holds Try.pinned (OpenSpec.ofChange fnExactMemRealSpec)

/-- ITS FALSE NEIGHBOUR: 'it returns false'. Refute it at one input. -/
def fnExactMemRealWrong : ChangeSpec := { name := "fnExactMemReal", fn := fun _ => fun
  | [d1, d2] => { results := [.lit (.bool false)], args := [d1, d2] }
  | _ => none }
def FnExactMemRealWrongFalsely : Prop := fnExactMemRealRow.holds Try.pinned (OpenSpec.ofChange fnExactMemRealWrong)

/-- 'laws.FnExactMemPutReal': WHATEVER THE INPUT: true; the input reads as it did. -/
def fnExactMemPutRealSpec : ChangeSpec := { name := "fnExactMemPutReal", fn := fun _ => fun
  | [d1, d2, d3] => { results := [.lit (.bool true)], args := [d1, d2, d3] }
  | _ => none }
def fnExactMemPutRealRow : OpenClaim := { program := "ytooiepddaclbgaa", sum := "5846b3a695612a27ccd59de8c0e353c08f9c72848179760b61fcf3a11edc8c4d", func := "loop.example/stilmach/laws.FnExactMemPutReal", spec := "fnExactMemPutReal", apart := false }
def FnExactMemPutRealSaid : Prop := fnExactMemPutRealRow.holds Try.pinned (OpenSpec.ofChange fnExactMemPutRealSpec)

/-- ITS FALSE NEIGHBOUR: 'it returns false'. Refute it at one input. -/
def fnExactMemPutRealWrong : ChangeSpec := { name := "fnExactMemPutReal", fn := fun _ => fun
  | [d1, d2, d3] => { results := [.lit (.bool false)], args := [d1, d2, d3] }
  | _ => none }
def FnExactMemPutRealWrongFalsely : Prop := fnExactMemPutRealRow.holds Try.pinned (OpenSpec.ofChange fnExactMemPutRealWrong)

/-- 'laws.FnExactMemPutWhole': WHATEVER THE INPUT: true; the input reads as it did. -/
def fnExactMemPutWholeSpec : ChangeSpec := { name := "fnExactMemPutWhole", fn := fun _ => fun
  | [d1, d2, d3] => { results := [.lit (.bool true)], args := [d1, d2, d3] }
  | _ => none }
def fnExactMemPutWholeRow : OpenClaim := { program := "ytooiepddaclbgaa", sum := "5846b3a695612a27ccd59de8c0e353c08f9c72848179760b61fcf3a11edc8c4d", func := "loop.example/stilmach/laws.FnExactMemPutWhole", spec := "fnExactMemPutWhole", apart := false }
def FnExactMemPutWholeSaid : Prop := fnExactMemPutWholeRow.holds Try.pinned (OpenSpec.ofChange fnExactMemPutWholeSpec)

/-- ITS FALSE NEIGHBOUR: 'it returns false'. Refute it at one input. -/
def fnExactMemPutWholeWrong : ChangeSpec := { name := "fnExactMemPutWhole", fn := fun _ => fun
  | [d1, d2, d3] => { results := [.lit (.bool false)], args := [d1, d2, d3] }
  | _ => none }
def FnExactMemPutWholeWrongFalsely : Prop := fnExactMemPutWholeRow.holds Try.pinned (OpenSpec.ofChange fnExactMemPutWholeWrong)

/-- 'laws.FnExactMemPut': WHATEVER THE INPUT: true; the input reads as it did. -/
def fnExactMemPutSpec : ChangeSpec := { name := "fnExactMemPut", fn := fun _ => fun
  | [d1, d2, d3] => { results := [.lit (.bool true)], args := [d1, d2, d3] }
  | _ => none }
def fnExactMemPutRow : OpenClaim := { program := "ytooiepddaclbgaa", sum := "5846b3a695612a27ccd59de8c0e353c08f9c72848179760b61fcf3a11edc8c4d", func := "loop.example/stilmach/laws.FnExactMemPut", spec := "fnExactMemPut", apart := false }
def FnExactMemPutSaid : Prop := fnExactMemPutRow.holds Try.pinned (OpenSpec.ofChange fnExactMemPutSpec)

/-- ITS FALSE NEIGHBOUR: 'it returns false'. Refute it at one input. -/
def fnExactMemPutWrong : ChangeSpec := { name := "fnExactMemPut", fn := fun _ => fun
  | [d1, d2, d3] => { results := [.lit (.bool false)], args := [d1, d2, d3] }
  | _ => none }
def FnExactMemPutWrongFalsely : Prop := fnExactMemPutRow.holds Try.pinned (OpenSpec.ofChange fnExactMemPutWrong)

/-- 'laws.FnMemPutNumber': WHATEVER THE INPUT: true; the input reads as it did. -/
def fnMemPutNumberSpec : ChangeSpec := { name := "fnMemPutNumber", fn := fun _ => fun
  | [d1, d2] => { results := [.lit (.bool true)], args := [d1, d2] }
  | _ => none }
def fnMemPutNumberRow : OpenClaim := { program := "ytooiepddaclbgaa", sum := "5846b3a695612a27ccd59de8c0e353c08f9c72848179760b61fcf3a11edc8c4d", func := "loop.example/stilmach/laws.FnMemPutNumber", spec := "fnMemPutNumber", inPlace := ["math.Float64bits", "math.Float64frombits"], apart := false }
def FnMemPutNumberSaid : Prop := fnMemPutNumberRow.holds Try.pinned (OpenSpec.ofChange fnMemPutNumberSpec)

/-- ITS FALSE NEIGHBOUR: 'it returns false'. Refute it at one input. -/
def fnMemPutNumberWrong : ChangeSpec := { name := "fnMemPutNumber", fn := fun _ => fun
  | [d1, d2] => { results := [.lit (.bool false)], args := [d1, d2] }
  | _ => none }
def FnMemPutNumberWrongFalsely : Prop := fnMemPutNumberRow.holds Try.pinned (OpenSpec.ofChange fnMemPutNumberWrong)

/-- 'laws.FnMemPut': WHATEVER THE INPUT: true; the input reads as it did. -/
def fnMemPutSpec : ChangeSpec := { name := "fnMemPut", fn := fun _ => fun
  | [d1, d2] => { results := [.lit (.bool true)], args := [d1, d2] }
  | _ => none }
def fnMemPutRow : OpenClaim := { program := "ytooiepddaclbgaa", sum := "5846b3a695612a27ccd59de8c0e353c08f9c72848179760b61fcf3a11edc8c4d", func := "loop.example/stilmach/laws.FnMemPut", spec := "fnMemPut", inPlace := ["math.Float64bits"], apart := false }
def FnMemPutSaid : Prop := fnMemPutRow.holds Try.pinned (OpenSpec.ofChange fnMemPutSpec)

/-- ITS FALSE NEIGHBOUR: 'it returns false'. Refute it at one input. -/
def fnMemPutWrong : ChangeSpec := { name := "fnMemPut", fn := fun _ => fun
  | [d1, d2] => { results := [.lit (.bool false)], args := [d1, d2] }
  | _ => none }
def FnMemPutWrongFalsely : Prop := fnMemPutRow.holds Try.pinned (OpenSpec.ofChange fnMemPutWrong)

/-- 'laws.FnMemRound': WHATEVER THE INPUT: true; the input reads as it did. -/
def fnMemRoundSpec : ChangeSpec := { name := "fnMemRound", fn := fun _ => fun
  | [d] => { results := [.lit (.bool true)], args := [d] }
  | _ => none }
def fnMemRoundRow : OpenClaim := { program := "ytooiepddaclbgaa", sum := "5846b3a695612a27ccd59de8c0e353c08f9c72848179760b61fcf3a11edc8c4d", func := "loop.example/stilmach/laws.FnMemRound", spec := "fnMemRound", inPlace := ["math.Float64frombits", "math.Float64bits"], apart := false }
def FnMemRoundSaid : Prop := fnMemRoundRow.holds Try.pinned (OpenSpec.ofChange fnMemRoundSpec)

/-- ITS FALSE NEIGHBOUR: 'it returns false'. Refute it at one input. -/
def fnMemRoundWrong : ChangeSpec := { name := "fnMemRound", fn := fun _ => fun
  | [d] => { results := [.lit (.bool false)], args := [d] }
  | _ => none }
def FnMemRoundWrongFalsely : Prop := fnMemRoundRow.holds Try.pinned (OpenSpec.ofChange fnMemRoundWrong)

/- THE SECOND FORM. 'bulk': how many values and letters a reading holds, each counted each time it is reached (what is shared counts as often as it is met; a slice's spare places count too). A statement '..UptoSaid' is the law's where the arguments, and the package variables that the reading takes, are together of bulk at most 1048576: NARROWER than '..Said'. Prove '..Said' where nothing that the law and all that it calls make is longer than what came in: it says more and counts as full. Else prove '..UptoSaid'. A law counts once. -/
mutual
def uptoBulk {H : Type} : DataW H → Nat
  | .lit (.string bytes) => bytes.length + 1
  | .lit _ => 1
  | .nil => 1
  | .ptr d => uptoBulk d + 1
  | .slice elems spare => uptoBulkAll elems + uptoBulkAll spare + 1
  | .agg parts => uptoBulkAll parts + 1
  | .iface _ d => uptoBulk d + 1
  | .map entries => uptoBulkEntries entries + 1
  | .held _ => 1
def uptoBulkAll {H : Type} : List (DataW H) → Nat
  | [] => 0
  | d :: r => uptoBulk d + uptoBulkAll r
def uptoBulkEntries {H : Type} : List (Lit × DataW H) → Nat
  | [] => 0
  | x :: r => uptoBulkEntry x + uptoBulkEntries r
def uptoBulkEntry {H : Type} : Lit × DataW H → Nat
  | (.string bytes, d) => bytes.length + uptoBulk d + 1
  | (_, d) => uptoBulk d + 1
 end
def uptoSmall : (H : Type) → List (DataW H) → Bool := fun _ ds => decide (uptoBulkAll ds ≤ 1048576)
def OpenSpec.upto (s : _root_.Go.ChangeSpec) : _root_.Go.OpenSpec := { _root_.Go.OpenSpec.ofChange s with cond := some uptoSmall }

/-- 'laws.FnExactMemSame', WHERE WHAT IT READS IS OF BULK AT MOST 1048576: true; the input reads as it did. -/
def fnExactMemSameUptoRow : OpenClaim := { program := "ytooiepddaclbgaa", sum := "5846b3a695612a27ccd59de8c0e353c08f9c72848179760b61fcf3a11edc8c4d", func := "loop.example/stilmach/laws.FnExactMemSame", spec := "fnExactMemSame", inPlace := ["math.Float64bits"], recurses := true, apart := false, narrowed := true }
def FnExactMemSameUptoSaid : Prop := fnExactMemSameUptoRow.holds Try.pinned (OpenSpec.upto fnExactMemSameSpec)

/-- 'laws.FnExactMemWhole', WHERE WHAT IT READS IS OF BULK AT MOST 1048576: true; the input reads as it did. -/
def fnExactMemWholeUptoRow : OpenClaim := { program := "ytooiepddaclbgaa", sum := "5846b3a695612a27ccd59de8c0e353c08f9c72848179760b61fcf3a11edc8c4d", func := "loop.example/stilmach/laws.FnExactMemWhole", spec := "fnExactMemWhole", apart := false, narrowed := true }
def FnExactMemWholeUptoSaid : Prop := fnExactMemWholeUptoRow.holds Try.pinned (OpenSpec.upto fnExactMemWholeSpec)

/-- 'laws.FnExactActEnd', WHERE WHAT IT READS IS OF BULK AT MOST 1048576: true; the input reads as it did. -/
def fnExactActEndUptoRow : OpenClaim := { program := "ytooiepddaclbgaa", sum := "5846b3a695612a27ccd59de8c0e353c08f9c72848179760b61fcf3a11edc8c4d", func := "loop.example/stilmach/laws.FnExactActEnd", spec := "fnExactActEnd", apart := false, narrowed := true }
def FnExactActEndUptoSaid : Prop := fnExactActEndUptoRow.holds Try.pinned (OpenSpec.upto fnExactActEndSpec)

/-- 'laws.FnExactMemBit', WHERE WHAT IT READS IS OF BULK AT MOST 1048576: true; the input reads as it did. -/
def fnExactMemBitUptoRow : OpenClaim := { program := "ytooiepddaclbgaa", sum := "5846b3a695612a27ccd59de8c0e353c08f9c72848179760b61fcf3a11edc8c4d", func := "loop.example/stilmach/laws.FnExactMemBit", spec := "fnExactMemBit", apart := false, narrowed := true }
def FnExactMemBitUptoSaid : Prop := fnExactMemBitUptoRow.holds Try.pinned (OpenSpec.upto fnExactMemBitSpec)

/-- 'laws.FnExactActStart', WHERE WHAT IT READS IS OF BULK AT MOST 1048576: true; the input reads as it did. -/
def fnExactActStartUptoRow : OpenClaim := { program := "ytooiepddaclbgaa", sum := "5846b3a695612a27ccd59de8c0e353c08f9c72848179760b61fcf3a11edc8c4d", func := "loop.example/stilmach/laws.FnExactActStart", spec := "fnExactActStart", apart := false, narrowed := true }
def FnExactActStartUptoSaid : Prop := fnExactActStartUptoRow.holds Try.pinned (OpenSpec.upto fnExactActStartSpec)

/-- 'laws.FnExactMemReal', WHERE WHAT IT READS IS OF BULK AT MOST 1048576: true; the input reads as it did. -/
def fnExactMemRealUptoRow : OpenClaim := { program := "ytooiepddaclbgaa", sum := "5846b3a695612a27ccd59de8c0e353c08f9c72848179760b61fcf3a11edc8c4d", func := "loop.example/stilmach/laws.FnExactMemReal", spec := "fnExactMemReal", inPlace := ["math.Float64frombits", "math.Float64bits"], apart := false, narrowed := true }
def FnExactMemRealUptoSaid : Prop := fnExactMemRealUptoRow.holds Try.pinned (OpenSpec.upto fnExactMemRealSpec)

/-- 'laws.FnExactMemPutReal', WHERE WHAT IT READS IS OF BULK AT MOST 1048576: true; the input reads as it did. -/
def fnExactMemPutRealUptoRow : OpenClaim := { program := "ytooiepddaclbgaa", sum := "5846b3a695612a27ccd59de8c0e353c08f9c72848179760b61fcf3a11edc8c4d", func := "loop.example/stilmach/laws.FnExactMemPutReal", spec := "fnExactMemPutReal", apart := false, narrowed := true }
def FnExactMemPutRealUptoSaid : Prop := fnExactMemPutRealUptoRow.holds Try.pinned (OpenSpec.upto fnExactMemPutRealSpec)

/-- 'laws.FnExactMemPutWhole', WHERE WHAT IT READS IS OF BULK AT MOST 1048576: true; the input reads as it did. -/
def fnExactMemPutWholeUptoRow : OpenClaim := { program := "ytooiepddaclbgaa", sum := "5846b3a695612a27ccd59de8c0e353c08f9c72848179760b61fcf3a11edc8c4d", func := "loop.example/stilmach/laws.FnExactMemPutWhole", spec := "fnExactMemPutWhole", apart := false, narrowed := true }
def FnExactMemPutWholeUptoSaid : Prop := fnExactMemPutWholeUptoRow.holds Try.pinned (OpenSpec.upto fnExactMemPutWholeSpec)

/-- 'laws.FnExactMemPut', WHERE WHAT IT READS IS OF BULK AT MOST 1048576: true; the input reads as it did. -/
def fnExactMemPutUptoRow : OpenClaim := { program := "ytooiepddaclbgaa", sum := "5846b3a695612a27ccd59de8c0e353c08f9c72848179760b61fcf3a11edc8c4d", func := "loop.example/stilmach/laws.FnExactMemPut", spec := "fnExactMemPut", apart := false, narrowed := true }
def FnExactMemPutUptoSaid : Prop := fnExactMemPutUptoRow.holds Try.pinned (OpenSpec.upto fnExactMemPutSpec)

/-- 'laws.FnMemPutNumber', WHERE WHAT IT READS IS OF BULK AT MOST 1048576: true; the input reads as it did. -/
def fnMemPutNumberUptoRow : OpenClaim := { program := "ytooiepddaclbgaa", sum := "5846b3a695612a27ccd59de8c0e353c08f9c72848179760b61fcf3a11edc8c4d", func := "loop.example/stilmach/laws.FnMemPutNumber", spec := "fnMemPutNumber", inPlace := ["math.Float64bits", "math.Float64frombits"], apart := false, narrowed := true }
def FnMemPutNumberUptoSaid : Prop := fnMemPutNumberUptoRow.holds Try.pinned (OpenSpec.upto fnMemPutNumberSpec)

/-- 'laws.FnMemPut', WHERE WHAT IT READS IS OF BULK AT MOST 1048576: true; the input reads as it did. -/
def fnMemPutUptoRow : OpenClaim := { program := "ytooiepddaclbgaa", sum := "5846b3a695612a27ccd59de8c0e353c08f9c72848179760b61fcf3a11edc8c4d", func := "loop.example/stilmach/laws.FnMemPut", spec := "fnMemPut", inPlace := ["math.Float64bits"], apart := false, narrowed := true }
def FnMemPutUptoSaid : Prop := fnMemPutUptoRow.holds Try.pinned (OpenSpec.upto fnMemPutSpec)

/-- 'laws.FnMemRound', WHERE WHAT IT READS IS OF BULK AT MOST 1048576: true; the input reads as it did. -/
def fnMemRoundUptoRow : OpenClaim := { program := "ytooiepddaclbgaa", sum := "5846b3a695612a27ccd59de8c0e353c08f9c72848179760b61fcf3a11edc8c4d", func := "loop.example/stilmach/laws.FnMemRound", spec := "fnMemRound", inPlace := ["math.Float64frombits", "math.Float64bits"], apart := false, narrowed := true }
def FnMemRoundUptoSaid : Prop := fnMemRoundUptoRow.holds Try.pinned (OpenSpec.upto fnMemRoundSpec)

end Rows
end Go.Proofs.Ytooiepddaclbgaa
