/-
  DERIVED. GIVEN WITH THE SEED: THE CARDS: each row of YtefadlbfkhndfaaGreatDoorRows.lean that lists a variable, with what it lists TIED to the program's text (the seventh form; the later family's looks); each row that meets fmt, with fmt's text TOLD by the authors' own Lean function (tested against real Go, not proved from fmt's source: count such statements apart). THE CARD IS WHAT COUNTS. Prove the row's statement (the work); the ties are given (YtefadlbfkhndfaaGreatDoorTie.lean); close each card by the builder's one call (the guide's Derived/Test/ToyasCard.lean, 'card_holds'). Laid BY PROGRAM, IN A SANDBOX (cutbox-door.mjs). By AI agents, Wed Nov 11 2026. No macro, syntax, notation, axiom, sorry.
-/
import Derived.Test.YtefadlbfkhndfaaGreatDoorRows
import GoSem.ClaimSeven
namespace Go.Proofs.YtefadlbfkhndfaaGreatDoor
namespace Rows

/-- THE TIED CARD OF 'laws.FnExactExecute'. -/
def fnExactExecuteCard : Claim7 := { stood := { row := fnExactExecuteRow, standIns := [], harness := (true, "c90e1bc930e101bbfffcbfc1d78fa0e217da21ab34f8a3b4a297accbf6e1e056"), looks := true }, kinds := [], alts := [], laidByText := true, laidKinds := [.data, .data, .data, .data, .sentinel, .sentinel, .pinned], laidTests := true, laidLooks := .later }
def FnExactExecuteCardSaid : Prop := Claim7.holds Tryz.pinned (.plain (OpenSpec.ofChange fnExactExecuteSpec)) fnExactExecuteCard

/-- THE TIED CARD OF 'laws.FnExecuteNone'. -/
def fnExecuteNoneCard : Claim7 := { stood := { row := fnExecuteNoneRow, standIns := [], harness := (true, "c90e1bc930e101bbfffcbfc1d78fa0e217da21ab34f8a3b4a297accbf6e1e056"), looks := true }, kinds := [], alts := [], laidByText := true, laidKinds := [.data, .data, .data, .data, .sentinel, .sentinel, .pinned], laidTests := true, laidLooks := .later }
def FnExecuteNoneCardSaid : Prop := Claim7.holds Tryz.pinned (.plain (OpenSpec.ofChange fnExecuteNoneSpec)) fnExecuteNoneCard

/-- THE TIED CARD OF 'laws.FnExecuteRest'. -/
def fnExecuteRestCard : Claim7 := { stood := { row := fnExecuteRestRow, standIns := [], harness := (true, "c90e1bc930e101bbfffcbfc1d78fa0e217da21ab34f8a3b4a297accbf6e1e056"), looks := true }, kinds := [], alts := [], laidByText := true, laidKinds := [.data, .data, .data, .data, .sentinel, .sentinel, .pinned], laidTests := true, laidLooks := .later }
def FnExecuteRestCardSaid : Prop := Claim7.holds Tryz.pinned (.plain (OpenSpec.ofChange fnExecuteRestSpec)) fnExecuteRestCard

/-- THE TIED CARD OF 'laws.FnExecuteNo'. -/
def fnExecuteNoCard : Claim7 := { stood := { row := fnExecuteNoRow, standIns := [], harness := (true, "c90e1bc930e101bbfffcbfc1d78fa0e217da21ab34f8a3b4a297accbf6e1e056"), looks := true }, kinds := [], alts := [], laidByText := true, laidKinds := [.data, .data, .data, .data, .sentinel, .sentinel, .pinned], laidTests := true, laidLooks := .later }
def FnExecuteNoCardSaid : Prop := Claim7.holds Tryz.pinned (.plain (OpenSpec.ofChange fnExecuteNoSpec)) fnExecuteNoCard

/-- THE TIED CARD OF 'laws.FnExecuteTwice'. -/
def fnExecuteTwiceCard : Claim7 := { stood := { row := fnExecuteTwiceRow, standIns := [], harness := (true, "c90e1bc930e101bbfffcbfc1d78fa0e217da21ab34f8a3b4a297accbf6e1e056"), looks := true }, kinds := [], alts := [], laidByText := true, laidKinds := [.data, .data, .data, .data, .sentinel, .sentinel, .pinned], laidTests := true, laidLooks := .later }
def FnExecuteTwiceCardSaid : Prop := Claim7.holds Tryz.pinned (.plain (OpenSpec.ofChange fnExecuteTwiceSpec)) fnExecuteTwiceCard

/-- THE TIED CARD OF 'laws.FnExecuteWhat'. -/
def fnExecuteWhatCard : Claim7 := { stood := { row := fnExecuteWhatRow, standIns := [], harness := (true, "c90e1bc930e101bbfffcbfc1d78fa0e217da21ab34f8a3b4a297accbf6e1e056"), looks := true }, kinds := [], alts := [], laidByText := true, laidKinds := [.data, .data, .data, .data, .sentinel, .sentinel, .pinned], laidTests := true, laidLooks := .later }
def FnExecuteWhatCardSaid : Prop := Claim7.holds Tryz.pinned (.plain (OpenSpec.ofChange fnExecuteWhatSpec)) fnExecuteWhatCard

/-- THE TIED CARD OF 'laws.FnExecuteLayer'. -/
def fnExecuteLayerCard : Claim7 := { stood := { row := fnExecuteLayerRow, standIns := [], harness := (true, "c90e1bc930e101bbfffcbfc1d78fa0e217da21ab34f8a3b4a297accbf6e1e056"), looks := true }, kinds := [], alts := [], laidByText := true, laidKinds := [.data, .data, .data, .data, .sentinel, .sentinel, .pinned], laidTests := true, laidLooks := .later }
def FnExecuteLayerCardSaid : Prop := Claim7.holds Tryz.pinned (.plain (OpenSpec.ofChange fnExecuteLayerSpec)) fnExecuteLayerCard

/-- THE TIED CARD OF 'laws.FnExecuteCount'. -/
def fnExecuteCountCard : Claim7 := { stood := { row := fnExecuteCountRow, standIns := [], harness := (true, "c90e1bc930e101bbfffcbfc1d78fa0e217da21ab34f8a3b4a297accbf6e1e056"), looks := true }, kinds := [], alts := [], laidByText := true, laidKinds := [.data, .data, .data, .data, .sentinel, .sentinel, .pinned], laidTests := true, laidLooks := .later }
def FnExecuteCountCardSaid : Prop := Claim7.holds Tryz.pinned (.plain (OpenSpec.ofChange fnExecuteCountSpec)) fnExecuteCountCard

/-- THE TIED CARD OF 'laws.FnExecuteAge'. -/
def fnExecuteAgeCard : Claim7 := { stood := { row := fnExecuteAgeRow, standIns := [], harness := (true, "c90e1bc930e101bbfffcbfc1d78fa0e217da21ab34f8a3b4a297accbf6e1e056"), looks := true }, kinds := [], alts := [], laidByText := true, laidKinds := [.data, .data, .data, .data, .sentinel, .sentinel, .pinned], laidTests := true, laidLooks := .later }
def FnExecuteAgeCardSaid : Prop := Claim7.holds Tryz.pinned (.plain (OpenSpec.ofChange fnExecuteAgeSpec)) fnExecuteAgeCard

/-- THE TIED CARD OF 'laws.FnExecuteCut'. -/
def fnExecuteCutCard : Claim7 := { stood := { row := fnExecuteCutRow, standIns := [], harness := (true, "c90e1bc930e101bbfffcbfc1d78fa0e217da21ab34f8a3b4a297accbf6e1e056"), looks := true }, kinds := [], alts := [], laidByText := true, laidKinds := [.data, .data, .data, .data, .sentinel, .sentinel, .pinned], laidTests := true, laidLooks := .later }
def FnExecuteCutCardSaid : Prop := Claim7.holds Tryz.pinned (.plain (OpenSpec.ofChange fnExecuteCutSpec)) fnExecuteCutCard

/-- THE TIED CARD OF 'laws.FnExecuteJoin'. -/
def fnExecuteJoinCard : Claim7 := { stood := { row := fnExecuteJoinRow, standIns := [], harness := (true, "c90e1bc930e101bbfffcbfc1d78fa0e217da21ab34f8a3b4a297accbf6e1e056"), looks := true }, kinds := [], alts := [], laidByText := true, laidKinds := [.data, .data, .data, .data, .sentinel, .sentinel, .pinned], laidTests := true, laidLooks := .later }
def FnExecuteJoinCardSaid : Prop := Claim7.holds Tryz.pinned (.plain (OpenSpec.ofChange fnExecuteJoinSpec)) fnExecuteJoinCard

/-- THE SECOND FORM's CARD OF 'laws.FnExactExecute'. -/
def fnExactExecuteUptoCard : Claim7 := { stood := { row := fnExactExecuteUptoRow, standIns := [], harness := (true, "c90e1bc930e101bbfffcbfc1d78fa0e217da21ab34f8a3b4a297accbf6e1e056"), looks := true }, kinds := [], alts := [], laidByText := true, laidKinds := [.data, .data, .data, .data, .sentinel, .sentinel, .pinned], laidTests := true, laidLooks := .later }
def FnExactExecuteUptoCardSaid : Prop := Claim7.holds Tryz.pinned (.plain (OpenSpec.upto fnExactExecuteSpec)) fnExactExecuteUptoCard

/-- THE SECOND FORM's CARD OF 'laws.FnExecuteNone'. -/
def fnExecuteNoneUptoCard : Claim7 := { stood := { row := fnExecuteNoneUptoRow, standIns := [], harness := (true, "c90e1bc930e101bbfffcbfc1d78fa0e217da21ab34f8a3b4a297accbf6e1e056"), looks := true }, kinds := [], alts := [], laidByText := true, laidKinds := [.data, .data, .data, .data, .sentinel, .sentinel, .pinned], laidTests := true, laidLooks := .later }
def FnExecuteNoneUptoCardSaid : Prop := Claim7.holds Tryz.pinned (.plain (OpenSpec.upto fnExecuteNoneSpec)) fnExecuteNoneUptoCard

/-- THE SECOND FORM's CARD OF 'laws.FnExecuteRest'. -/
def fnExecuteRestUptoCard : Claim7 := { stood := { row := fnExecuteRestUptoRow, standIns := [], harness := (true, "c90e1bc930e101bbfffcbfc1d78fa0e217da21ab34f8a3b4a297accbf6e1e056"), looks := true }, kinds := [], alts := [], laidByText := true, laidKinds := [.data, .data, .data, .data, .sentinel, .sentinel, .pinned], laidTests := true, laidLooks := .later }
def FnExecuteRestUptoCardSaid : Prop := Claim7.holds Tryz.pinned (.plain (OpenSpec.upto fnExecuteRestSpec)) fnExecuteRestUptoCard

/-- THE SECOND FORM's CARD OF 'laws.FnExecuteNo'. -/
def fnExecuteNoUptoCard : Claim7 := { stood := { row := fnExecuteNoUptoRow, standIns := [], harness := (true, "c90e1bc930e101bbfffcbfc1d78fa0e217da21ab34f8a3b4a297accbf6e1e056"), looks := true }, kinds := [], alts := [], laidByText := true, laidKinds := [.data, .data, .data, .data, .sentinel, .sentinel, .pinned], laidTests := true, laidLooks := .later }
def FnExecuteNoUptoCardSaid : Prop := Claim7.holds Tryz.pinned (.plain (OpenSpec.upto fnExecuteNoSpec)) fnExecuteNoUptoCard

/-- THE SECOND FORM's CARD OF 'laws.FnExecuteTwice'. -/
def fnExecuteTwiceUptoCard : Claim7 := { stood := { row := fnExecuteTwiceUptoRow, standIns := [], harness := (true, "c90e1bc930e101bbfffcbfc1d78fa0e217da21ab34f8a3b4a297accbf6e1e056"), looks := true }, kinds := [], alts := [], laidByText := true, laidKinds := [.data, .data, .data, .data, .sentinel, .sentinel, .pinned], laidTests := true, laidLooks := .later }
def FnExecuteTwiceUptoCardSaid : Prop := Claim7.holds Tryz.pinned (.plain (OpenSpec.upto fnExecuteTwiceSpec)) fnExecuteTwiceUptoCard

/-- THE SECOND FORM's CARD OF 'laws.FnExecuteWhat'. -/
def fnExecuteWhatUptoCard : Claim7 := { stood := { row := fnExecuteWhatUptoRow, standIns := [], harness := (true, "c90e1bc930e101bbfffcbfc1d78fa0e217da21ab34f8a3b4a297accbf6e1e056"), looks := true }, kinds := [], alts := [], laidByText := true, laidKinds := [.data, .data, .data, .data, .sentinel, .sentinel, .pinned], laidTests := true, laidLooks := .later }
def FnExecuteWhatUptoCardSaid : Prop := Claim7.holds Tryz.pinned (.plain (OpenSpec.upto fnExecuteWhatSpec)) fnExecuteWhatUptoCard

/-- THE SECOND FORM's CARD OF 'laws.FnExecuteLayer'. -/
def fnExecuteLayerUptoCard : Claim7 := { stood := { row := fnExecuteLayerUptoRow, standIns := [], harness := (true, "c90e1bc930e101bbfffcbfc1d78fa0e217da21ab34f8a3b4a297accbf6e1e056"), looks := true }, kinds := [], alts := [], laidByText := true, laidKinds := [.data, .data, .data, .data, .sentinel, .sentinel, .pinned], laidTests := true, laidLooks := .later }
def FnExecuteLayerUptoCardSaid : Prop := Claim7.holds Tryz.pinned (.plain (OpenSpec.upto fnExecuteLayerSpec)) fnExecuteLayerUptoCard

/-- THE SECOND FORM's CARD OF 'laws.FnExecuteCount'. -/
def fnExecuteCountUptoCard : Claim7 := { stood := { row := fnExecuteCountUptoRow, standIns := [], harness := (true, "c90e1bc930e101bbfffcbfc1d78fa0e217da21ab34f8a3b4a297accbf6e1e056"), looks := true }, kinds := [], alts := [], laidByText := true, laidKinds := [.data, .data, .data, .data, .sentinel, .sentinel, .pinned], laidTests := true, laidLooks := .later }
def FnExecuteCountUptoCardSaid : Prop := Claim7.holds Tryz.pinned (.plain (OpenSpec.upto fnExecuteCountSpec)) fnExecuteCountUptoCard

/-- THE SECOND FORM's CARD OF 'laws.FnExecuteAge'. -/
def fnExecuteAgeUptoCard : Claim7 := { stood := { row := fnExecuteAgeUptoRow, standIns := [], harness := (true, "c90e1bc930e101bbfffcbfc1d78fa0e217da21ab34f8a3b4a297accbf6e1e056"), looks := true }, kinds := [], alts := [], laidByText := true, laidKinds := [.data, .data, .data, .data, .sentinel, .sentinel, .pinned], laidTests := true, laidLooks := .later }
def FnExecuteAgeUptoCardSaid : Prop := Claim7.holds Tryz.pinned (.plain (OpenSpec.upto fnExecuteAgeSpec)) fnExecuteAgeUptoCard

/-- THE SECOND FORM's CARD OF 'laws.FnExecuteCut'. -/
def fnExecuteCutUptoCard : Claim7 := { stood := { row := fnExecuteCutUptoRow, standIns := [], harness := (true, "c90e1bc930e101bbfffcbfc1d78fa0e217da21ab34f8a3b4a297accbf6e1e056"), looks := true }, kinds := [], alts := [], laidByText := true, laidKinds := [.data, .data, .data, .data, .sentinel, .sentinel, .pinned], laidTests := true, laidLooks := .later }
def FnExecuteCutUptoCardSaid : Prop := Claim7.holds Tryz.pinned (.plain (OpenSpec.upto fnExecuteCutSpec)) fnExecuteCutUptoCard

/-- THE SECOND FORM's CARD OF 'laws.FnExecuteJoin'. -/
def fnExecuteJoinUptoCard : Claim7 := { stood := { row := fnExecuteJoinUptoRow, standIns := [], harness := (true, "c90e1bc930e101bbfffcbfc1d78fa0e217da21ab34f8a3b4a297accbf6e1e056"), looks := true }, kinds := [], alts := [], laidByText := true, laidKinds := [.data, .data, .data, .data, .sentinel, .sentinel, .pinned], laidTests := true, laidLooks := .later }
def FnExecuteJoinUptoCardSaid : Prop := Claim7.holds Tryz.pinned (.plain (OpenSpec.upto fnExecuteJoinSpec)) fnExecuteJoinUptoCard
end Rows
end Go.Proofs.YtefadlbfkhndfaaGreatDoor
