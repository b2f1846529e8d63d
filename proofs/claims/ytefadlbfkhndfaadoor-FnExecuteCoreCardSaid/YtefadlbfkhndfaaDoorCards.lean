/-
  DERIVED. GIVEN WITH THE SEED: THE CARDS: each row of YtefadlbfkhndfaaDoorRows.lean that lists a variable, with what it lists TIED to the program's text (the seventh form; the later family's looks); each row that meets fmt, with fmt's text TOLD by the authors' own Lean function (tested against real Go, not proved from fmt's source: count such statements apart). THE CARD IS WHAT COUNTS. Prove the row's statement (the work); the ties are given (YtefadlbfkhndfaaDoorTie.lean); close each card by the builder's one call (the guide's Derived/Test/ToyasCard.lean, 'card_holds'). Laid BY PROGRAM, IN A SANDBOX (cutbox-door.mjs). By AI agents, Wed Nov 11 2026. No macro, syntax, notation, axiom, sorry.
-/
import Derived.Test.YtefadlbfkhndfaaDoorRows
import GoSem.ClaimSeven
namespace Go.Proofs.YtefadlbfkhndfaaDoor
namespace Rows

/-- THE TIED CARD OF 'laws.FnExecuteYear'. -/
def fnExecuteYearCard : Claim7 := { stood := { row := fnExecuteYearRow, standIns := [], harness := (true, "04259860765063e3e1e4bf490a191db8ed6b956b7b4a2f09565faa6fbc7c09ba"), looks := true }, kinds := [], alts := [], laidByText := true, laidKinds := [.data, .data, .data, .data, .sentinel, .sentinel, .pinned], laidTests := true, laidLooks := .later }
def FnExecuteYearCardSaid : Prop := Claim7.holds Tryd.pinned (.plain (OpenSpec.ofChange fnExecuteYearSpec)) fnExecuteYearCard

/-- THE TIED CARD OF 'laws.FnExecuteCore'. -/
def fnExecuteCoreCard : Claim7 := { stood := { row := fnExecuteCoreRow, standIns := [], harness := (true, "04259860765063e3e1e4bf490a191db8ed6b956b7b4a2f09565faa6fbc7c09ba"), looks := true }, kinds := [], alts := [], laidByText := true, laidKinds := [.data, .data, .data, .data, .sentinel, .sentinel, .pinned], laidTests := true, laidLooks := .later }
def FnExecuteCoreCardSaid : Prop := Claim7.holds Tryd.pinned (.plain (OpenSpec.ofChange fnExecuteCoreSpec)) fnExecuteCoreCard

/-- THE SECOND FORM's CARD OF 'laws.FnExecuteYear'. -/
def fnExecuteYearUptoCard : Claim7 := { stood := { row := fnExecuteYearUptoRow, standIns := [], harness := (true, "04259860765063e3e1e4bf490a191db8ed6b956b7b4a2f09565faa6fbc7c09ba"), looks := true }, kinds := [], alts := [], laidByText := true, laidKinds := [.data, .data, .data, .data, .sentinel, .sentinel, .pinned], laidTests := true, laidLooks := .later }
def FnExecuteYearUptoCardSaid : Prop := Claim7.holds Tryd.pinned (.plain (OpenSpec.upto fnExecuteYearSpec)) fnExecuteYearUptoCard

/-- THE SECOND FORM's CARD OF 'laws.FnExecuteCore'. -/
def fnExecuteCoreUptoCard : Claim7 := { stood := { row := fnExecuteCoreUptoRow, standIns := [], harness := (true, "04259860765063e3e1e4bf490a191db8ed6b956b7b4a2f09565faa6fbc7c09ba"), looks := true }, kinds := [], alts := [], laidByText := true, laidKinds := [.data, .data, .data, .data, .sentinel, .sentinel, .pinned], laidTests := true, laidLooks := .later }
def FnExecuteCoreUptoCardSaid : Prop := Claim7.holds Tryd.pinned (.plain (OpenSpec.upto fnExecuteCoreSpec)) fnExecuteCoreUptoCard
end Rows
end Go.Proofs.YtefadlbfkhndfaaDoor
