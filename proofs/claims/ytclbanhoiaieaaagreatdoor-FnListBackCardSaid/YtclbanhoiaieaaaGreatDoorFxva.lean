/-
  Closed facts of the program that every row asks, each once; and how a row's facts are put together. Conditions: none.
-/
import Derived.Test.YtclbanhoiaieaaaGreatDoorRows
import Derived.JoinedOf
import Derived.KernelRfl
set_option linter.unusedVariables false
namespace Go.Proofs.YtclbanhoiaieaaaGreatDoor
open Go

theorem fxLaid : laidOutB Tryz.prog = true := by kernel_rfl
theorem fxMaps : mapsRowed Tryz.prog = true := by kernel_rfl
theorem fxHeard : (Tryz.prog).stopsHeard = true := by kernel_rfl
theorem fxEnter : (Tryz.prog).mayEnter = true := by kernel_rfl
theorem fxLifts : (Rows.fnExactMemReadRow.lifted == (Tryz.prog).liftsFinal) = true := by kernel_rfl
theorem fxMake : ((Tryz.prog).make == some Rows.fnExactMemReadRow.make) = true := by kernel_rfl
theorem fxKeys : (Rows.fnExactMemReadRow.plainKeys == (Tryz.prog).plainKeys) = true := by kernel_rfl

theorem joined_of {P : Program} {f : FuncId} {fn : Func} {s : ChangeSpec} {c : OpenClaim} (h0 : c.wf (OpenSpec.ofChange s) = true) (h1 : laidOutB P = true) (h2 : mapsRowed P = true)
    (h3 : (fn.params.all (P.readableRec ·) && namedTie P c.named s.vars && (c.stops == []) && (P.stops == []) && (c.knobs == []) && (P.stopKnobs == [])) = true)
    (h9 : (c.inPlace == P.inPlace f) = true) (h10 : (c.unfollowed == P.unfollowed f) = true) (h11 : (c.recurses == P.recurses f) = true) (h12 : (c.named == P.varsNamed f) = true)
    (h13 : ((c.maps == (fn.params.toList ++ s.plain.varTypes P).any (P.mapsRec ·)) && (c.ifaces == (fn.params.toList ++ s.plain.varTypes P).any (P.ifacesRec ·)) && (c.mapsOut == P.mapsAmong fn.resultTypes.toList) &&
      (c.loops == (fn.params.toList ++ s.plain.varTypes P).any (P.loopsFrom ·)) && (c.wideKeys == (fn.params.toList ++ s.plain.varTypes P ++ fn.resultTypes.toList).any (P.wideKeysFrom ·)) &&
      s.vars.all (P.varReadable ·) && fn.resultTypes.all (fun t => P.readableRec t && decide (t < P.types.size)) && (c.ifacesOut == fn.resultTypes.toList.any (P.ifacesRec ·)) && (c.loopsOut == fn.resultTypes.toList.any (P.loopsFrom ·))) = true)
    (h22 : (c.plainKeys == P.plainKeys) = true) (h23 : c.shortTexts.isNone = true) (h24 : P.stopsHeard = true) (h25 : P.mayEnter = true) (h26 : (c.lifted == P.liftsFinal) = true) (h27 : (P.make == some c.make) = true)
    (h28 : ((c.kinds == (if c.domain.isEmpty then [] else fn.params.toList.map fun t => match P.underlying t with | some (.int k) => some k | _ => none)) && (c.pinned == c.pinnedBy) &&
      (c.veiled == (fn.params.toList ++ s.plain.varTypes P ++ fn.resultTypes.toList).any (P.veiledRec ·)) && c.veiledFits P fn.params.toList (fn.params.toList ++ s.plain.varTypes P ++ fn.resultTypes.toList)) = true) :
    joinedFacts P f fn s c = true := by
  unfold joinedFacts
  simp only [Bool.and_eq_true] at h3 h13 h28
  obtain ⟨⟨⟨⟨⟨a3, a4⟩, a5⟩, a6⟩, a7⟩, a8⟩ := h3
  obtain ⟨⟨⟨⟨⟨⟨⟨⟨b1, b2⟩, b3⟩, b4⟩, b5⟩, b6⟩, b7⟩, b8⟩, b9⟩ := h13
  obtain ⟨⟨⟨c1, c2⟩, c3⟩, c4⟩ := h28
  simp only [Bool.and_eq_true]
  exact ⟨⟨⟨⟨⟨⟨⟨⟨⟨⟨⟨⟨⟨⟨⟨⟨⟨⟨⟨⟨⟨⟨⟨⟨⟨⟨⟨⟨⟨⟨⟨h0, h1⟩, h2⟩, a3⟩, a4⟩, a5⟩, a6⟩, a7⟩, a8⟩, h9⟩, h10⟩, h11⟩, h12⟩, b1⟩, b2⟩, b3⟩, b4⟩, b5⟩, b6⟩, b7⟩, b8⟩, b9⟩, h22⟩, h23⟩, h24⟩, h25⟩, h26⟩, h27⟩, c1⟩, c2⟩, c3⟩, c4⟩
end Go.Proofs.YtclbanhoiaieaaaGreatDoor
