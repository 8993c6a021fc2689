/-
  DERIVED. GIVEN WITH THE SEED: THE CARDS: each row of YtclbanhoiaieaaaGreatDoorRows.lean that lists a variable, with what it lists TIED to the program's text (the seventh form; the later family's looks); each row that meets fmt, with fmt's text TOLD by the authors' own Lean function (tested against real Go, not proved from fmt's source: count such statements apart). THE CARD IS WHAT COUNTS. Prove the row's statement (the work); the ties are given (YtclbanhoiaieaaaGreatDoorTie.lean); close each card by the builder's one call (the guide's Derived/Test/ToyasCard.lean, 'card_holds'). Laid BY PROGRAM, IN A SANDBOX (cutbox-door.mjs). By AI agents, Wed Nov 11 2026. No macro, syntax, notation, axiom, sorry.
-/
import Derived.Test.YtclbanhoiaieaaaGreatDoorRows
import GoSem.ClaimSeven
namespace Go.Proofs.YtclbanhoiaieaaaGreatDoor
namespace Rows

/-- THE TIED CARD OF 'laws.FnExactMemRead'. -/
def fnExactMemReadCard : Claim7 := { stood := { row := fnExactMemReadRow, standIns := [], harness := (true, "4b3469317ef58357056e8cb276c76bd0c2629d22af10b2a28e98d962e79a1912"), looks := true }, kinds := [], alts := [], laidByText := true, laidKinds := [.data, .data, .data, .data, .sentinel, .sentinel, .widerDeep, .pinned], laidTests := true, laidLooks := .later }
def FnExactMemReadCardSaid : Prop := Claim7.holds Tryz.pinned (.plain (OpenSpec.ofChange fnExactMemReadSpec)) fnExactMemReadCard

/-- THE TIED CARD OF 'laws.FnMemBack'. -/
def fnMemBackCard : Claim7 := { stood := { row := fnMemBackRow, standIns := [], harness := (true, "4b3469317ef58357056e8cb276c76bd0c2629d22af10b2a28e98d962e79a1912"), looks := true }, kinds := [], alts := [], laidByText := true, laidKinds := [.data, .data, .data, .data, .sentinel, .sentinel, .widerDeep, .pinned], laidTests := true, laidLooks := .later }
def FnMemBackCardSaid : Prop := Claim7.holds Tryz.pinned (.plain (OpenSpec.ofChange fnMemBackSpec)) fnMemBackCard

/-- THE TIED CARD OF 'laws.FnListParse'. -/
def fnListParseCard : Claim7 := { stood := { row := fnListParseRow, standIns := [], harness := (true, "4b3469317ef58357056e8cb276c76bd0c2629d22af10b2a28e98d962e79a1912"), looks := true }, kinds := [], alts := [], laidByText := true, laidKinds := [.data, .data, .data, .data, .sentinel, .sentinel, .widerDeep, .widerDeep, .widerDeep, .pinned], laidTests := true, laidLooks := .later }
def FnListParseCardSaid : Prop := Claim7.holds Tryz.pinned (.plain (OpenSpec.ofChange fnListParseSpec)) fnListParseCard

/-- THE TIED CARD OF 'laws.FnExactListParse'. -/
def fnExactListParseCard : Claim7 := { stood := { row := fnExactListParseRow, standIns := [], harness := (true, "4b3469317ef58357056e8cb276c76bd0c2629d22af10b2a28e98d962e79a1912"), looks := true }, kinds := [], alts := [], laidByText := true, laidKinds := [.data, .data, .data, .data, .sentinel, .sentinel, .widerDeep, .widerDeep, .widerDeep, .pinned], laidTests := true, laidLooks := .later }
def FnExactListParseCardSaid : Prop := Claim7.holds Tryz.pinned (.plain (OpenSpec.ofChange fnExactListParseSpec)) fnExactListParseCard

/-- THE TIED CARD OF 'laws.FnListLine'. -/
def fnListLineCard : Claim7 := { stood := { row := fnListLineRow, standIns := [], harness := (true, "4b3469317ef58357056e8cb276c76bd0c2629d22af10b2a28e98d962e79a1912"), looks := true }, kinds := [], alts := [], laidByText := true, laidKinds := [.data, .data, .data, .data, .sentinel, .sentinel, .widerDeep, .widerDeep, .widerDeep, .pinned], laidTests := true, laidLooks := .later }
def FnListLineCardSaid : Prop := Claim7.holds Tryz.pinned (.plain (OpenSpec.ofChange fnListLineSpec)) fnListLineCard

/-- THE TIED CARD OF 'laws.FnListBack'. -/
def fnListBackCard : Claim7 := { stood := { row := fnListBackRow, standIns := [], harness := (true, "4b3469317ef58357056e8cb276c76bd0c2629d22af10b2a28e98d962e79a1912"), looks := true }, kinds := [], alts := [], laidByText := true, laidKinds := [.data, .data, .data, .data, .sentinel, .sentinel, .widerDeep, .widerDeep, .widerDeep, .pinned], laidTests := true, laidLooks := .later }
def FnListBackCardSaid : Prop := Claim7.holds Tryz.pinned (.plain (OpenSpec.ofChange fnListBackSpec)) fnListBackCard

/-- THE TIED CARD OF 'laws.FnElemBack'. -/
def fnElemBackCard : Claim7 := { stood := { row := fnElemBackRow, standIns := [], harness := (true, "4b3469317ef58357056e8cb276c76bd0c2629d22af10b2a28e98d962e79a1912"), looks := true }, kinds := [], alts := [], laidByText := true, laidKinds := [.data, .data, .data, .data, .sentinel, .sentinel, .widerDeep, .widerDeep, .pinned], laidTests := true, laidLooks := .later }
def FnElemBackCardSaid : Prop := Claim7.holds Tryz.pinned (.plain (OpenSpec.ofChange fnElemBackSpec)) fnElemBackCard

/-- THE TIED CARD OF 'laws.FnExactElemRead'. -/
def fnExactElemReadCard : Claim7 := { stood := { row := fnExactElemReadRow, standIns := [], harness := (true, "4b3469317ef58357056e8cb276c76bd0c2629d22af10b2a28e98d962e79a1912"), looks := true }, kinds := [], alts := [], laidByText := true, laidKinds := [.data, .data, .data, .data, .sentinel, .sentinel, .widerDeep, .widerDeep, .pinned], laidTests := true, laidLooks := .later }
def FnExactElemReadCardSaid : Prop := Claim7.holds Tryz.pinned (.plain (OpenSpec.ofChange fnExactElemReadSpec)) fnExactElemReadCard

/-- THE SECOND FORM's CARD OF 'laws.FnExactMemRead'. -/
def fnExactMemReadUptoCard : Claim7 := { stood := { row := fnExactMemReadUptoRow, standIns := [], harness := (true, "4b3469317ef58357056e8cb276c76bd0c2629d22af10b2a28e98d962e79a1912"), looks := true }, kinds := [], alts := [], laidByText := true, laidKinds := [.data, .data, .data, .data, .sentinel, .sentinel, .widerDeep, .pinned], laidTests := true, laidLooks := .later }
def FnExactMemReadUptoCardSaid : Prop := Claim7.holds Tryz.pinned (.plain (OpenSpec.upto fnExactMemReadSpec)) fnExactMemReadUptoCard

/-- THE SECOND FORM's CARD OF 'laws.FnMemBack'. -/
def fnMemBackUptoCard : Claim7 := { stood := { row := fnMemBackUptoRow, standIns := [], harness := (true, "4b3469317ef58357056e8cb276c76bd0c2629d22af10b2a28e98d962e79a1912"), looks := true }, kinds := [], alts := [], laidByText := true, laidKinds := [.data, .data, .data, .data, .sentinel, .sentinel, .widerDeep, .pinned], laidTests := true, laidLooks := .later }
def FnMemBackUptoCardSaid : Prop := Claim7.holds Tryz.pinned (.plain (OpenSpec.upto fnMemBackSpec)) fnMemBackUptoCard

/-- THE SECOND FORM's CARD OF 'laws.FnListParse'. -/
def fnListParseUptoCard : Claim7 := { stood := { row := fnListParseUptoRow, standIns := [], harness := (true, "4b3469317ef58357056e8cb276c76bd0c2629d22af10b2a28e98d962e79a1912"), looks := true }, kinds := [], alts := [], laidByText := true, laidKinds := [.data, .data, .data, .data, .sentinel, .sentinel, .widerDeep, .widerDeep, .widerDeep, .pinned], laidTests := true, laidLooks := .later }
def FnListParseUptoCardSaid : Prop := Claim7.holds Tryz.pinned (.plain (OpenSpec.upto fnListParseSpec)) fnListParseUptoCard

/-- THE SECOND FORM's CARD OF 'laws.FnExactListParse'. -/
def fnExactListParseUptoCard : Claim7 := { stood := { row := fnExactListParseUptoRow, standIns := [], harness := (true, "4b3469317ef58357056e8cb276c76bd0c2629d22af10b2a28e98d962e79a1912"), looks := true }, kinds := [], alts := [], laidByText := true, laidKinds := [.data, .data, .data, .data, .sentinel, .sentinel, .widerDeep, .widerDeep, .widerDeep, .pinned], laidTests := true, laidLooks := .later }
def FnExactListParseUptoCardSaid : Prop := Claim7.holds Tryz.pinned (.plain (OpenSpec.upto fnExactListParseSpec)) fnExactListParseUptoCard

/-- THE SECOND FORM's CARD OF 'laws.FnListLine'. -/
def fnListLineUptoCard : Claim7 := { stood := { row := fnListLineUptoRow, standIns := [], harness := (true, "4b3469317ef58357056e8cb276c76bd0c2629d22af10b2a28e98d962e79a1912"), looks := true }, kinds := [], alts := [], laidByText := true, laidKinds := [.data, .data, .data, .data, .sentinel, .sentinel, .widerDeep, .widerDeep, .widerDeep, .pinned], laidTests := true, laidLooks := .later }
def FnListLineUptoCardSaid : Prop := Claim7.holds Tryz.pinned (.plain (OpenSpec.upto fnListLineSpec)) fnListLineUptoCard

/-- THE SECOND FORM's CARD OF 'laws.FnListBack'. -/
def fnListBackUptoCard : Claim7 := { stood := { row := fnListBackUptoRow, standIns := [], harness := (true, "4b3469317ef58357056e8cb276c76bd0c2629d22af10b2a28e98d962e79a1912"), looks := true }, kinds := [], alts := [], laidByText := true, laidKinds := [.data, .data, .data, .data, .sentinel, .sentinel, .widerDeep, .widerDeep, .widerDeep, .pinned], laidTests := true, laidLooks := .later }
def FnListBackUptoCardSaid : Prop := Claim7.holds Tryz.pinned (.plain (OpenSpec.upto fnListBackSpec)) fnListBackUptoCard

/-- THE SECOND FORM's CARD OF 'laws.FnElemBack'. -/
def fnElemBackUptoCard : Claim7 := { stood := { row := fnElemBackUptoRow, standIns := [], harness := (true, "4b3469317ef58357056e8cb276c76bd0c2629d22af10b2a28e98d962e79a1912"), looks := true }, kinds := [], alts := [], laidByText := true, laidKinds := [.data, .data, .data, .data, .sentinel, .sentinel, .widerDeep, .widerDeep, .pinned], laidTests := true, laidLooks := .later }
def FnElemBackUptoCardSaid : Prop := Claim7.holds Tryz.pinned (.plain (OpenSpec.upto fnElemBackSpec)) fnElemBackUptoCard

/-- THE SECOND FORM's CARD OF 'laws.FnExactElemRead'. -/
def fnExactElemReadUptoCard : Claim7 := { stood := { row := fnExactElemReadUptoRow, standIns := [], harness := (true, "4b3469317ef58357056e8cb276c76bd0c2629d22af10b2a28e98d962e79a1912"), looks := true }, kinds := [], alts := [], laidByText := true, laidKinds := [.data, .data, .data, .data, .sentinel, .sentinel, .widerDeep, .widerDeep, .pinned], laidTests := true, laidLooks := .later }
def FnExactElemReadUptoCardSaid : Prop := Claim7.holds Tryz.pinned (.plain (OpenSpec.upto fnExactElemReadSpec)) fnExactElemReadUptoCard
end Rows
end Go.Proofs.YtclbanhoiaieaaaGreatDoor
