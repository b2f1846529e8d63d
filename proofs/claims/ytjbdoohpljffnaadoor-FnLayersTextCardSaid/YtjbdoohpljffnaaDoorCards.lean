/-
  DERIVED. GIVEN WITH THE SEED: THE CARDS: each row of YtjbdoohpljffnaaDoorRows.lean that lists a variable, with what it lists TIED to the program's text (the seventh form; the later family's looks); each row that meets fmt, with fmt's text TOLD by the authors' own Lean function (tested against real Go, not proved from fmt's source: count such statements apart). THE CARD IS WHAT COUNTS. Prove the row's statement (the work); the ties are given (YtjbdoohpljffnaaDoorTie.lean); close each card by the builder's one call (the guide's Derived/Test/ToyasCard.lean, 'card_holds'). Laid BY PROGRAM, IN A SANDBOX (cutbox-door.mjs). By AI agents, Wed Nov 11 2026. No macro, syntax, notation, axiom, sorry.
-/
import Derived.Test.YtjbdoohpljffnaaDoorRows
import GoSem.ClaimSeven
namespace Go.Proofs.YtjbdoohpljffnaaDoor
namespace Rows

/-- THE TIED CARD OF 'laws.FnExactCurveText'. -/
def fnExactCurveTextCard : Claim7 := { stood := { row := fnExactCurveTextRow, standIns := [], harness := (true, "a81397ba8b5b2eea4ee9e78d7dda28110a601d5c34563b012354ce6090a8b981"), looks := true }, kinds := [], alts := [], laidByText := true, laidKinds := [.data, .data, .data], laidTests := true, laidLooks := .later }
def FnExactCurveTextCardSaid : Prop := Claim7.holds Tryd.pinned (.plain (OpenSpec.ofChange fnExactCurveTextSpec)) fnExactCurveTextCard

/-- THE TIED CARD OF 'laws.FnCurveTextTurn'. -/
def fnCurveTextTurnCard : Claim7 := { stood := { row := fnCurveTextTurnRow, standIns := [], harness := (true, "a81397ba8b5b2eea4ee9e78d7dda28110a601d5c34563b012354ce6090a8b981"), looks := true }, kinds := [], alts := [], laidByText := true, laidKinds := [.data, .data, .data], laidTests := true, laidLooks := .later }
def FnCurveTextTurnCardSaid : Prop := Claim7.holds Tryd.pinned (.plain (OpenSpec.ofChange fnCurveTextTurnSpec)) fnCurveTextTurnCard

/-- THE TIED CARD OF 'laws.FnLayersTextJoin'. -/
def fnLayersTextJoinCard : Claim7 := { stood := { row := fnLayersTextJoinRow, standIns := [], harness := (true, "a81397ba8b5b2eea4ee9e78d7dda28110a601d5c34563b012354ce6090a8b981"), looks := true }, kinds := [], alts := [], laidByText := true, laidKinds := [.data, .data, .data], laidTests := true, laidLooks := .later }
def FnLayersTextJoinCardSaid : Prop := Claim7.holds Tryd.pinned (.plain (OpenSpec.ofChange fnLayersTextJoinSpec)) fnLayersTextJoinCard

/-- THE TIED CARD OF 'laws.FnExactLayersText'. -/
def fnExactLayersTextCard : Claim7 := { stood := { row := fnExactLayersTextRow, standIns := [], harness := (true, "a81397ba8b5b2eea4ee9e78d7dda28110a601d5c34563b012354ce6090a8b981"), looks := true }, kinds := [], alts := [], laidByText := true, laidKinds := [.data, .data, .data], laidTests := true, laidLooks := .later }
def FnExactLayersTextCardSaid : Prop := Claim7.holds Tryd.pinned (.plain (OpenSpec.ofChange fnExactLayersTextSpec)) fnExactLayersTextCard

/-- THE TIED CARD OF 'laws.FnExactCoreText'. -/
def fnExactCoreTextCard : Claim7 := { stood := { row := fnExactCoreTextRow, standIns := [], harness := (true, "a81397ba8b5b2eea4ee9e78d7dda28110a601d5c34563b012354ce6090a8b981"), looks := true }, kinds := [], alts := [], laidByText := true, laidKinds := [.data, .data, .data], laidTests := true, laidLooks := .later }
def FnExactCoreTextCardSaid : Prop := Claim7.holds Tryd.pinned (.plain (OpenSpec.ofChange fnExactCoreTextSpec)) fnExactCoreTextCard

/-- THE TIED CARD OF 'laws.FnCoreText'. -/
def fnCoreTextCard : Claim7 := { stood := { row := fnCoreTextRow, standIns := [], harness := (true, "a81397ba8b5b2eea4ee9e78d7dda28110a601d5c34563b012354ce6090a8b981"), looks := true }, kinds := [], alts := [], laidByText := true, laidKinds := [.data, .data, .data], laidTests := true, laidLooks := .later }
def FnCoreTextCardSaid : Prop := Claim7.holds Tryd.pinned (.plain (OpenSpec.ofChange fnCoreTextSpec)) fnCoreTextCard

/-- THE TIED CARD OF 'laws.FnCoreTextParts'. -/
def fnCoreTextPartsCard : Claim7 := { stood := { row := fnCoreTextPartsRow, standIns := [], harness := (true, "a81397ba8b5b2eea4ee9e78d7dda28110a601d5c34563b012354ce6090a8b981"), looks := true }, kinds := [], alts := [], laidByText := true, laidKinds := [.data, .data, .data], laidTests := true, laidLooks := .later }
def FnCoreTextPartsCardSaid : Prop := Claim7.holds Tryd.pinned (.plain (OpenSpec.ofChange fnCoreTextPartsSpec)) fnCoreTextPartsCard

/-- THE TIED CARD OF 'laws.FnCurveText'. -/
def fnCurveTextCard : Claim7 := { stood := { row := fnCurveTextRow, standIns := [], harness := (true, "a81397ba8b5b2eea4ee9e78d7dda28110a601d5c34563b012354ce6090a8b981"), looks := true }, kinds := [], alts := [], laidByText := true, laidKinds := [.data, .data, .data, .data, .sentinel, .sentinel, .pinned], laidTests := true, laidLooks := .later }
def FnCurveTextCardSaid : Prop := Claim7.holds Tryd.pinned (.plain (OpenSpec.ofChange fnCurveTextSpec)) fnCurveTextCard

/-- THE TIED CARD OF 'laws.FnLayersText'. -/
def fnLayersTextCard : Claim7 := { stood := { row := fnLayersTextRow, standIns := [], harness := (true, "a81397ba8b5b2eea4ee9e78d7dda28110a601d5c34563b012354ce6090a8b981"), looks := true }, kinds := [], alts := [], laidByText := true, laidKinds := [.data, .data, .data, .data, .sentinel, .sentinel, .pinned], laidTests := true, laidLooks := .later }
def FnLayersTextCardSaid : Prop := Claim7.holds Tryd.pinned (.plain (OpenSpec.ofChange fnLayersTextSpec)) fnLayersTextCard

/-- THE TIED CARD OF 'laws.FnExactCurveFrom'. -/
def fnExactCurveFromCard : Claim7 := { stood := { row := fnExactCurveFromRow, standIns := [], harness := (true, "a81397ba8b5b2eea4ee9e78d7dda28110a601d5c34563b012354ce6090a8b981"), looks := true }, kinds := [], alts := [], laidByText := true, laidKinds := [.data, .data, .data, .data, .sentinel, .sentinel, .pinned], laidTests := true, laidLooks := .later }
def FnExactCurveFromCardSaid : Prop := Claim7.holds Tryd.pinned (.plain (OpenSpec.ofChange fnExactCurveFromSpec)) fnExactCurveFromCard

/-- THE TIED CARD OF 'laws.FnExactLayersFrom'. -/
def fnExactLayersFromCard : Claim7 := { stood := { row := fnExactLayersFromRow, standIns := [], harness := (true, "a81397ba8b5b2eea4ee9e78d7dda28110a601d5c34563b012354ce6090a8b981"), looks := true }, kinds := [], alts := [], laidByText := true, laidKinds := [.data, .data, .data, .data, .sentinel, .sentinel, .pinned], laidTests := true, laidLooks := .later }
def FnExactLayersFromCardSaid : Prop := Claim7.holds Tryd.pinned (.plain (OpenSpec.ofChange fnExactLayersFromSpec)) fnExactLayersFromCard

/-- THE TIED CARD OF 'laws.FnCurveFrom'. -/
def fnCurveFromCard : Claim7 := { stood := { row := fnCurveFromRow, standIns := [], harness := (true, "a81397ba8b5b2eea4ee9e78d7dda28110a601d5c34563b012354ce6090a8b981"), looks := true }, kinds := [], alts := [], laidByText := true, laidKinds := [.data, .data, .data, .data, .sentinel, .sentinel, .pinned], laidTests := true, laidLooks := .later }
def FnCurveFromCardSaid : Prop := Claim7.holds Tryd.pinned (.plain (OpenSpec.ofChange fnCurveFromSpec)) fnCurveFromCard

/-- THE TIED CARD OF 'laws.FnLayersFrom'. -/
def fnLayersFromCard : Claim7 := { stood := { row := fnLayersFromRow, standIns := [], harness := (true, "a81397ba8b5b2eea4ee9e78d7dda28110a601d5c34563b012354ce6090a8b981"), looks := true }, kinds := [], alts := [], laidByText := true, laidKinds := [.data, .data, .data, .data, .sentinel, .sentinel, .pinned], laidTests := true, laidLooks := .later }
def FnLayersFromCardSaid : Prop := Claim7.holds Tryd.pinned (.plain (OpenSpec.ofChange fnLayersFromSpec)) fnLayersFromCard

/-- THE SECOND FORM's CARD OF 'laws.FnExactCurveText'. -/
def fnExactCurveTextUptoCard : Claim7 := { stood := { row := fnExactCurveTextUptoRow, standIns := [], harness := (true, "a81397ba8b5b2eea4ee9e78d7dda28110a601d5c34563b012354ce6090a8b981"), looks := true }, kinds := [], alts := [], laidByText := true, laidKinds := [.data, .data, .data], laidTests := true, laidLooks := .later }
def FnExactCurveTextUptoCardSaid : Prop := Claim7.holds Tryd.pinned (.plain (OpenSpec.upto fnExactCurveTextSpec)) fnExactCurveTextUptoCard

/-- THE SECOND FORM's CARD OF 'laws.FnCurveTextTurn'. -/
def fnCurveTextTurnUptoCard : Claim7 := { stood := { row := fnCurveTextTurnUptoRow, standIns := [], harness := (true, "a81397ba8b5b2eea4ee9e78d7dda28110a601d5c34563b012354ce6090a8b981"), looks := true }, kinds := [], alts := [], laidByText := true, laidKinds := [.data, .data, .data], laidTests := true, laidLooks := .later }
def FnCurveTextTurnUptoCardSaid : Prop := Claim7.holds Tryd.pinned (.plain (OpenSpec.upto fnCurveTextTurnSpec)) fnCurveTextTurnUptoCard

/-- THE SECOND FORM's CARD OF 'laws.FnLayersTextJoin'. -/
def fnLayersTextJoinUptoCard : Claim7 := { stood := { row := fnLayersTextJoinUptoRow, standIns := [], harness := (true, "a81397ba8b5b2eea4ee9e78d7dda28110a601d5c34563b012354ce6090a8b981"), looks := true }, kinds := [], alts := [], laidByText := true, laidKinds := [.data, .data, .data], laidTests := true, laidLooks := .later }
def FnLayersTextJoinUptoCardSaid : Prop := Claim7.holds Tryd.pinned (.plain (OpenSpec.upto fnLayersTextJoinSpec)) fnLayersTextJoinUptoCard

/-- THE SECOND FORM's CARD OF 'laws.FnExactLayersText'. -/
def fnExactLayersTextUptoCard : Claim7 := { stood := { row := fnExactLayersTextUptoRow, standIns := [], harness := (true, "a81397ba8b5b2eea4ee9e78d7dda28110a601d5c34563b012354ce6090a8b981"), looks := true }, kinds := [], alts := [], laidByText := true, laidKinds := [.data, .data, .data], laidTests := true, laidLooks := .later }
def FnExactLayersTextUptoCardSaid : Prop := Claim7.holds Tryd.pinned (.plain (OpenSpec.upto fnExactLayersTextSpec)) fnExactLayersTextUptoCard

/-- THE SECOND FORM's CARD OF 'laws.FnExactCoreText'. -/
def fnExactCoreTextUptoCard : Claim7 := { stood := { row := fnExactCoreTextUptoRow, standIns := [], harness := (true, "a81397ba8b5b2eea4ee9e78d7dda28110a601d5c34563b012354ce6090a8b981"), looks := true }, kinds := [], alts := [], laidByText := true, laidKinds := [.data, .data, .data], laidTests := true, laidLooks := .later }
def FnExactCoreTextUptoCardSaid : Prop := Claim7.holds Tryd.pinned (.plain (OpenSpec.upto fnExactCoreTextSpec)) fnExactCoreTextUptoCard

/-- THE SECOND FORM's CARD OF 'laws.FnCoreText'. -/
def fnCoreTextUptoCard : Claim7 := { stood := { row := fnCoreTextUptoRow, standIns := [], harness := (true, "a81397ba8b5b2eea4ee9e78d7dda28110a601d5c34563b012354ce6090a8b981"), looks := true }, kinds := [], alts := [], laidByText := true, laidKinds := [.data, .data, .data], laidTests := true, laidLooks := .later }
def FnCoreTextUptoCardSaid : Prop := Claim7.holds Tryd.pinned (.plain (OpenSpec.upto fnCoreTextSpec)) fnCoreTextUptoCard

/-- THE SECOND FORM's CARD OF 'laws.FnCoreTextParts'. -/
def fnCoreTextPartsUptoCard : Claim7 := { stood := { row := fnCoreTextPartsUptoRow, standIns := [], harness := (true, "a81397ba8b5b2eea4ee9e78d7dda28110a601d5c34563b012354ce6090a8b981"), looks := true }, kinds := [], alts := [], laidByText := true, laidKinds := [.data, .data, .data], laidTests := true, laidLooks := .later }
def FnCoreTextPartsUptoCardSaid : Prop := Claim7.holds Tryd.pinned (.plain (OpenSpec.upto fnCoreTextPartsSpec)) fnCoreTextPartsUptoCard

/-- THE SECOND FORM's CARD OF 'laws.FnCurveText'. -/
def fnCurveTextUptoCard : Claim7 := { stood := { row := fnCurveTextUptoRow, standIns := [], harness := (true, "a81397ba8b5b2eea4ee9e78d7dda28110a601d5c34563b012354ce6090a8b981"), looks := true }, kinds := [], alts := [], laidByText := true, laidKinds := [.data, .data, .data, .data, .sentinel, .sentinel, .pinned], laidTests := true, laidLooks := .later }
def FnCurveTextUptoCardSaid : Prop := Claim7.holds Tryd.pinned (.plain (OpenSpec.upto fnCurveTextSpec)) fnCurveTextUptoCard

/-- THE SECOND FORM's CARD OF 'laws.FnLayersText'. -/
def fnLayersTextUptoCard : Claim7 := { stood := { row := fnLayersTextUptoRow, standIns := [], harness := (true, "a81397ba8b5b2eea4ee9e78d7dda28110a601d5c34563b012354ce6090a8b981"), looks := true }, kinds := [], alts := [], laidByText := true, laidKinds := [.data, .data, .data, .data, .sentinel, .sentinel, .pinned], laidTests := true, laidLooks := .later }
def FnLayersTextUptoCardSaid : Prop := Claim7.holds Tryd.pinned (.plain (OpenSpec.upto fnLayersTextSpec)) fnLayersTextUptoCard

/-- THE SECOND FORM's CARD OF 'laws.FnExactCurveFrom'. -/
def fnExactCurveFromUptoCard : Claim7 := { stood := { row := fnExactCurveFromUptoRow, standIns := [], harness := (true, "a81397ba8b5b2eea4ee9e78d7dda28110a601d5c34563b012354ce6090a8b981"), looks := true }, kinds := [], alts := [], laidByText := true, laidKinds := [.data, .data, .data, .data, .sentinel, .sentinel, .pinned], laidTests := true, laidLooks := .later }
def FnExactCurveFromUptoCardSaid : Prop := Claim7.holds Tryd.pinned (.plain (OpenSpec.upto fnExactCurveFromSpec)) fnExactCurveFromUptoCard

/-- THE SECOND FORM's CARD OF 'laws.FnExactLayersFrom'. -/
def fnExactLayersFromUptoCard : Claim7 := { stood := { row := fnExactLayersFromUptoRow, standIns := [], harness := (true, "a81397ba8b5b2eea4ee9e78d7dda28110a601d5c34563b012354ce6090a8b981"), looks := true }, kinds := [], alts := [], laidByText := true, laidKinds := [.data, .data, .data, .data, .sentinel, .sentinel, .pinned], laidTests := true, laidLooks := .later }
def FnExactLayersFromUptoCardSaid : Prop := Claim7.holds Tryd.pinned (.plain (OpenSpec.upto fnExactLayersFromSpec)) fnExactLayersFromUptoCard

/-- THE SECOND FORM's CARD OF 'laws.FnCurveFrom'. -/
def fnCurveFromUptoCard : Claim7 := { stood := { row := fnCurveFromUptoRow, standIns := [], harness := (true, "a81397ba8b5b2eea4ee9e78d7dda28110a601d5c34563b012354ce6090a8b981"), looks := true }, kinds := [], alts := [], laidByText := true, laidKinds := [.data, .data, .data, .data, .sentinel, .sentinel, .pinned], laidTests := true, laidLooks := .later }
def FnCurveFromUptoCardSaid : Prop := Claim7.holds Tryd.pinned (.plain (OpenSpec.upto fnCurveFromSpec)) fnCurveFromUptoCard

/-- THE SECOND FORM's CARD OF 'laws.FnLayersFrom'. -/
def fnLayersFromUptoCard : Claim7 := { stood := { row := fnLayersFromUptoRow, standIns := [], harness := (true, "a81397ba8b5b2eea4ee9e78d7dda28110a601d5c34563b012354ce6090a8b981"), looks := true }, kinds := [], alts := [], laidByText := true, laidKinds := [.data, .data, .data, .data, .sentinel, .sentinel, .pinned], laidTests := true, laidLooks := .later }
def FnLayersFromUptoCardSaid : Prop := Claim7.holds Tryd.pinned (.plain (OpenSpec.upto fnLayersFromSpec)) fnLayersFromUptoCard
end Rows
end Go.Proofs.YtjbdoohpljffnaaDoor
