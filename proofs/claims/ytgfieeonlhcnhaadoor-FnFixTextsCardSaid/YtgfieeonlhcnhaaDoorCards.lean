/-
  DERIVED. GIVEN WITH THE SEED: THE CARDS: each row of YtgfieeonlhcnhaaDoorRows.lean that lists a variable, with what it lists TIED to the program's text (the seventh form; the later family's looks); each row that meets fmt, with fmt's text TOLD by the authors' own Lean function (tested against real Go, not proved from fmt's source: count such statements apart). THE CARD IS WHAT COUNTS. Prove the row's statement (the work); the ties are given (YtgfieeonlhcnhaaDoorTie.lean); close each card by the builder's one call (the guide's Derived/Test/ToyasCard.lean, 'card_holds'). Laid BY PROGRAM, IN A SANDBOX (cutbox-door.mjs). By AI agents, Wed Nov 11 2026. No macro, syntax, notation, axiom, sorry.
-/
import Derived.Test.YtgfieeonlhcnhaaDoorRows
import GoSem.ClaimSeven
namespace Go.Proofs.YtgfieeonlhcnhaaDoor
namespace Rows

/-- THE TIED CARD OF 'laws.FnFixTexts'. -/
def fnFixTextsCard : Claim7 := { stood := { row := fnFixTextsRow, standIns := [], harness := (true, "0b9631ded2428b8eea604e724161e2b49231ce82670f86e4ba093ddb88f05c4a"), looks := true }, kinds := [], alts := [], laidByText := true, laidKinds := [.data, .data, .data, .sentinel, .sentinel], laidTests := true, laidLooks := .later }
def FnFixTextsCardSaid : Prop := Claim7.holds Tryd.pinned (.plain (OpenSpec.ofChange fnFixTextsSpec)) fnFixTextsCard

/-- THE TIED CARD OF 'laws.FnExactDec'. -/
def fnExactDecCard : Claim7 := { stood := { row := fnExactDecRow, standIns := [], harness := (true, "0b9631ded2428b8eea604e724161e2b49231ce82670f86e4ba093ddb88f05c4a"), looks := true }, kinds := [], alts := [], laidByText := true, laidKinds := [.data, .data, .data], laidTests := true, laidLooks := .later }
def FnExactDecCardSaid : Prop := Claim7.holds Tryd.pinned (.plain (OpenSpec.ofChange fnExactDecSpec)) fnExactDecCard

/-- THE TIED CARD OF 'laws.FnExactReadDec'. -/
def fnExactReadDecCard : Claim7 := { stood := { row := fnExactReadDecRow, standIns := [], harness := (true, "0b9631ded2428b8eea604e724161e2b49231ce82670f86e4ba093ddb88f05c4a"), looks := true }, kinds := [], alts := [], laidByText := true, laidKinds := [.data, .data, .data, .sentinel, .sentinel], laidTests := true, laidLooks := .later }
def FnExactReadDecCardSaid : Prop := Claim7.holds Tryd.pinned (.plain (OpenSpec.ofChange fnExactReadDecSpec)) fnExactReadDecCard

/-- THE TIED CARD OF 'laws.FnExactShowFix'. -/
def fnExactShowFixCard : Claim7 := { stood := { row := fnExactShowFixRow, standIns := [], harness := (true, "0b9631ded2428b8eea604e724161e2b49231ce82670f86e4ba093ddb88f05c4a"), looks := true }, kinds := [], alts := [], laidByText := true, laidKinds := [.data, .data, .data], laidTests := true, laidLooks := .later }
def FnExactShowFixCardSaid : Prop := Claim7.holds Tryd.pinned (.plain (OpenSpec.ofChange fnExactShowFixSpec)) fnExactShowFixCard

/-- THE TIED CARD OF 'laws.FnExactReadFix'. -/
def fnExactReadFixCard : Claim7 := { stood := { row := fnExactReadFixRow, standIns := [], harness := (true, "0b9631ded2428b8eea604e724161e2b49231ce82670f86e4ba093ddb88f05c4a"), looks := true }, kinds := [], alts := [], laidByText := true, laidKinds := [.data, .data, .data, .sentinel, .sentinel], laidTests := true, laidLooks := .later }
def FnExactReadFixCardSaid : Prop := Claim7.holds Tryd.pinned (.plain (OpenSpec.ofChange fnExactReadFixSpec)) fnExactReadFixCard

/-- THE TIED CARD OF 'laws.FnNumbers'. -/
def fnNumbersCard : Claim7 := { stood := { row := fnNumbersRow, standIns := [], harness := (true, "0b9631ded2428b8eea604e724161e2b49231ce82670f86e4ba093ddb88f05c4a"), looks := true }, kinds := [], alts := [], laidByText := true, laidKinds := [.data, .data, .data, .sentinel, .sentinel], laidTests := true, laidLooks := .later }
def FnNumbersCardSaid : Prop := Claim7.holds Tryd.pinned (.plain (OpenSpec.ofChange fnNumbersSpec)) fnNumbersCard

/-- THE SECOND FORM's CARD OF 'laws.FnFixTexts'. -/
def fnFixTextsUptoCard : Claim7 := { stood := { row := fnFixTextsUptoRow, standIns := [], harness := (true, "0b9631ded2428b8eea604e724161e2b49231ce82670f86e4ba093ddb88f05c4a"), looks := true }, kinds := [], alts := [], laidByText := true, laidKinds := [.data, .data, .data, .sentinel, .sentinel], laidTests := true, laidLooks := .later }
def FnFixTextsUptoCardSaid : Prop := Claim7.holds Tryd.pinned (.plain (OpenSpec.upto fnFixTextsSpec)) fnFixTextsUptoCard

/-- THE SECOND FORM's CARD OF 'laws.FnExactDec'. -/
def fnExactDecUptoCard : Claim7 := { stood := { row := fnExactDecUptoRow, standIns := [], harness := (true, "0b9631ded2428b8eea604e724161e2b49231ce82670f86e4ba093ddb88f05c4a"), looks := true }, kinds := [], alts := [], laidByText := true, laidKinds := [.data, .data, .data], laidTests := true, laidLooks := .later }
def FnExactDecUptoCardSaid : Prop := Claim7.holds Tryd.pinned (.plain (OpenSpec.upto fnExactDecSpec)) fnExactDecUptoCard

/-- THE SECOND FORM's CARD OF 'laws.FnExactReadDec'. -/
def fnExactReadDecUptoCard : Claim7 := { stood := { row := fnExactReadDecUptoRow, standIns := [], harness := (true, "0b9631ded2428b8eea604e724161e2b49231ce82670f86e4ba093ddb88f05c4a"), looks := true }, kinds := [], alts := [], laidByText := true, laidKinds := [.data, .data, .data, .sentinel, .sentinel], laidTests := true, laidLooks := .later }
def FnExactReadDecUptoCardSaid : Prop := Claim7.holds Tryd.pinned (.plain (OpenSpec.upto fnExactReadDecSpec)) fnExactReadDecUptoCard

/-- THE SECOND FORM's CARD OF 'laws.FnExactShowFix'. -/
def fnExactShowFixUptoCard : Claim7 := { stood := { row := fnExactShowFixUptoRow, standIns := [], harness := (true, "0b9631ded2428b8eea604e724161e2b49231ce82670f86e4ba093ddb88f05c4a"), looks := true }, kinds := [], alts := [], laidByText := true, laidKinds := [.data, .data, .data], laidTests := true, laidLooks := .later }
def FnExactShowFixUptoCardSaid : Prop := Claim7.holds Tryd.pinned (.plain (OpenSpec.upto fnExactShowFixSpec)) fnExactShowFixUptoCard

/-- THE SECOND FORM's CARD OF 'laws.FnExactReadFix'. -/
def fnExactReadFixUptoCard : Claim7 := { stood := { row := fnExactReadFixUptoRow, standIns := [], harness := (true, "0b9631ded2428b8eea604e724161e2b49231ce82670f86e4ba093ddb88f05c4a"), looks := true }, kinds := [], alts := [], laidByText := true, laidKinds := [.data, .data, .data, .sentinel, .sentinel], laidTests := true, laidLooks := .later }
def FnExactReadFixUptoCardSaid : Prop := Claim7.holds Tryd.pinned (.plain (OpenSpec.upto fnExactReadFixSpec)) fnExactReadFixUptoCard

/-- THE SECOND FORM's CARD OF 'laws.FnNumbers'. -/
def fnNumbersUptoCard : Claim7 := { stood := { row := fnNumbersUptoRow, standIns := [], harness := (true, "0b9631ded2428b8eea604e724161e2b49231ce82670f86e4ba093ddb88f05c4a"), looks := true }, kinds := [], alts := [], laidByText := true, laidKinds := [.data, .data, .data, .sentinel, .sentinel], laidTests := true, laidLooks := .later }
def FnNumbersUptoCardSaid : Prop := Claim7.holds Tryd.pinned (.plain (OpenSpec.upto fnNumbersSpec)) fnNumbersUptoCard
end Rows
end Go.Proofs.YtgfieeonlhcnhaaDoor
