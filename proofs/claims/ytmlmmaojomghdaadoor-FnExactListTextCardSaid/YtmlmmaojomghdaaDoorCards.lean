/-
  DERIVED. GIVEN WITH THE SEED: THE CARDS: each row of YtmlmmaojomghdaaDoorRows.lean that lists a variable, with what it lists TIED to the program's text (the seventh form; the later family's looks); each row that meets fmt, with fmt's text TOLD by the authors' own Lean function (tested against real Go, not proved from fmt's source: count such statements apart). THE CARD IS WHAT COUNTS. Prove the row's statement (the work); the ties are given (YtmlmmaojomghdaaDoorTie.lean); close each card by the builder's one call (the guide's Derived/Test/ToyasCard.lean, 'card_holds'). Laid BY PROGRAM, IN A SANDBOX (cutbox-door.mjs). By AI agents, Wed Nov 11 2026. No macro, syntax, notation, axiom, sorry.
-/
import Derived.Test.YtmlmmaojomghdaaDoorRows
import GoSem.ClaimSeven
namespace Go.Proofs.YtmlmmaojomghdaaDoor
namespace Rows

/-- THE TIED CARD OF 'laws.FnExactListWord'. -/
def fnExactListWordCard : Claim7 := { stood := { row := fnExactListWordRow, standIns := [], harness := (true, "f36216885a5a8cebbae3300ab2c2c9e56a32920253e63c3cc33fc02811219a0a"), looks := false }, kinds := [], alts := [], laidByText := true, laidKinds := [.widerDeep], laidTests := true, laidLooks := .later }
def FnExactListWordCardSaid : Prop := Claim7.holds Tryd.pinned (.plain (OpenSpec.ofChange fnExactListWordSpec)) fnExactListWordCard

/-- THE TIED CARD OF 'laws.FnExactMemText'. -/
def fnExactMemTextCard : Claim7 := { stood := { row := fnExactMemTextRow, standIns := [], harness := (true, "f36216885a5a8cebbae3300ab2c2c9e56a32920253e63c3cc33fc02811219a0a"), looks := false }, kinds := [], alts := [], laidByText := true, laidKinds := [.data, .data, .data, .widerDeep], laidTests := true, laidLooks := .later }
def FnExactMemTextCardSaid : Prop := Claim7.holds Tryd.pinned (.plain (OpenSpec.ofChange fnExactMemTextSpec)) fnExactMemTextCard

/-- THE TIED CARD OF 'laws.FnMemSame'. -/
def fnMemSameCard : Claim7 := { stood := { row := fnMemSameRow, standIns := [], harness := (true, "f36216885a5a8cebbae3300ab2c2c9e56a32920253e63c3cc33fc02811219a0a"), looks := false }, kinds := [], alts := [], laidByText := true, laidKinds := [.data, .data, .data, .widerDeep], laidTests := true, laidLooks := .later }
def FnMemSameCardSaid : Prop := Claim7.holds Tryd.pinned (.plain (OpenSpec.ofChange fnMemSameSpec)) fnMemSameCard

/-- THE TIED CARD OF 'laws.FnExactListLine'. -/
def fnExactListLineCard : Claim7 := { stood := { row := fnExactListLineRow, standIns := [], harness := (true, "f36216885a5a8cebbae3300ab2c2c9e56a32920253e63c3cc33fc02811219a0a"), looks := false }, kinds := [], alts := [], laidByText := true, laidKinds := [.data, .data, .data, .widerDeep, .widerDeep, .widerDeep], laidTests := true, laidLooks := .later }
def FnExactListLineCardSaid : Prop := Claim7.holds Tryd.pinned (.plain (OpenSpec.ofChange fnExactListLineSpec)) fnExactListLineCard

/-- THE TIED CARD OF 'laws.FnExactListText'. -/
def fnExactListTextCard : Claim7 := { stood := { row := fnExactListTextRow, standIns := [], harness := (true, "f36216885a5a8cebbae3300ab2c2c9e56a32920253e63c3cc33fc02811219a0a"), looks := false }, kinds := [], alts := [], laidByText := true, laidKinds := [.data, .data, .data, .widerDeep, .widerDeep, .widerDeep], laidTests := true, laidLooks := .later }
def FnExactListTextCardSaid : Prop := Claim7.holds Tryd.pinned (.plain (OpenSpec.ofChange fnExactListTextSpec)) fnExactListTextCard

/-- THE SECOND FORM's CARD OF 'laws.FnExactListWord'. -/
def fnExactListWordUptoCard : Claim7 := { stood := { row := fnExactListWordUptoRow, standIns := [], harness := (true, "f36216885a5a8cebbae3300ab2c2c9e56a32920253e63c3cc33fc02811219a0a"), looks := false }, kinds := [], alts := [], laidByText := true, laidKinds := [.widerDeep], laidTests := true, laidLooks := .later }
def FnExactListWordUptoCardSaid : Prop := Claim7.holds Tryd.pinned (.plain (OpenSpec.upto fnExactListWordSpec)) fnExactListWordUptoCard

/-- THE SECOND FORM's CARD OF 'laws.FnExactMemText'. -/
def fnExactMemTextUptoCard : Claim7 := { stood := { row := fnExactMemTextUptoRow, standIns := [], harness := (true, "f36216885a5a8cebbae3300ab2c2c9e56a32920253e63c3cc33fc02811219a0a"), looks := false }, kinds := [], alts := [], laidByText := true, laidKinds := [.data, .data, .data, .widerDeep], laidTests := true, laidLooks := .later }
def FnExactMemTextUptoCardSaid : Prop := Claim7.holds Tryd.pinned (.plain (OpenSpec.upto fnExactMemTextSpec)) fnExactMemTextUptoCard

/-- THE SECOND FORM's CARD OF 'laws.FnMemSame'. -/
def fnMemSameUptoCard : Claim7 := { stood := { row := fnMemSameUptoRow, standIns := [], harness := (true, "f36216885a5a8cebbae3300ab2c2c9e56a32920253e63c3cc33fc02811219a0a"), looks := false }, kinds := [], alts := [], laidByText := true, laidKinds := [.data, .data, .data, .widerDeep], laidTests := true, laidLooks := .later }
def FnMemSameUptoCardSaid : Prop := Claim7.holds Tryd.pinned (.plain (OpenSpec.upto fnMemSameSpec)) fnMemSameUptoCard

/-- THE SECOND FORM's CARD OF 'laws.FnExactListLine'. -/
def fnExactListLineUptoCard : Claim7 := { stood := { row := fnExactListLineUptoRow, standIns := [], harness := (true, "f36216885a5a8cebbae3300ab2c2c9e56a32920253e63c3cc33fc02811219a0a"), looks := false }, kinds := [], alts := [], laidByText := true, laidKinds := [.data, .data, .data, .widerDeep, .widerDeep, .widerDeep], laidTests := true, laidLooks := .later }
def FnExactListLineUptoCardSaid : Prop := Claim7.holds Tryd.pinned (.plain (OpenSpec.upto fnExactListLineSpec)) fnExactListLineUptoCard

/-- THE SECOND FORM's CARD OF 'laws.FnExactListText'. -/
def fnExactListTextUptoCard : Claim7 := { stood := { row := fnExactListTextUptoRow, standIns := [], harness := (true, "f36216885a5a8cebbae3300ab2c2c9e56a32920253e63c3cc33fc02811219a0a"), looks := false }, kinds := [], alts := [], laidByText := true, laidKinds := [.data, .data, .data, .widerDeep, .widerDeep, .widerDeep], laidTests := true, laidLooks := .later }
def FnExactListTextUptoCardSaid : Prop := Claim7.holds Tryd.pinned (.plain (OpenSpec.upto fnExactListTextSpec)) fnExactListTextUptoCard
end Rows
end Go.Proofs.YtmlmmaojomghdaaDoor
