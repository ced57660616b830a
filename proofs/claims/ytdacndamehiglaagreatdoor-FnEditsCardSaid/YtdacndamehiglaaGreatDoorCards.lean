/-
  DERIVED. GIVEN WITH THE SEED: THE CARDS: each row of YtdacndamehiglaaGreatDoorRows.lean that lists a variable, with what it lists TIED to the program's text (the seventh form; the later family's looks); each row that meets fmt, with fmt's text TOLD by the authors' own Lean function (tested against real Go, not proved from fmt's source: count such statements apart). THE CARD IS WHAT COUNTS. Prove the row's statement (the work); the ties are given (YtdacndamehiglaaGreatDoorTie.lean); close each card by the builder's one call (the guide's Derived/Test/ToyasCard.lean, 'card_holds'). Laid BY PROGRAM, IN A SANDBOX (cutbox-door.mjs). By AI agents, Wed Nov 11 2026. No macro, syntax, notation, axiom, sorry.
-/
import Derived.Test.YtdacndamehiglaaGreatDoorRows
import GoSem.ClaimSeven
namespace Go.Proofs.YtdacndamehiglaaGreatDoor
namespace Rows

/-- THE TIED CARD OF 'laws.FnEdits'. -/
def fnEditsCard : Claim7 := { stood := { row := fnEditsRow, standIns := [], harness := (true, "220ee84eb48a30861306bb903e28d5bbb12396bdc221255f82ec1b6ba80eb379"), looks := true }, kinds := [], alts := [], laidByText := true, laidKinds := [.data, .data, .data, .data, .pinned], laidTests := true, laidLooks := .later }
def FnEditsCardSaid : Prop := Claim7.holds Tryz.pinned (.plain (OpenSpec.ofChange fnEditsSpec)) fnEditsCard

/-- THE TIED CARD OF 'laws.FnUndone'. -/
def fnUndoneCard : Claim7 := { stood := { row := fnUndoneRow, standIns := [], harness := (true, "220ee84eb48a30861306bb903e28d5bbb12396bdc221255f82ec1b6ba80eb379"), looks := true }, kinds := [], alts := [], laidByText := true, laidKinds := [.data, .data, .data, .data, .sentinel, .sentinel, .pinned], laidTests := true, laidLooks := .later }
def FnUndoneCardSaid : Prop := Claim7.holds Tryz.pinned (.plain (OpenSpec.ofChange fnUndoneSpec)) fnUndoneCard

/-- THE TIED CARD OF 'laws.FnPassed'. -/
def fnPassedCard : Claim7 := { stood := { row := fnPassedRow, standIns := [], harness := (true, "220ee84eb48a30861306bb903e28d5bbb12396bdc221255f82ec1b6ba80eb379"), looks := true }, kinds := [], alts := [], laidByText := true, laidKinds := [.data, .data, .data, .data, .pinned], laidTests := true, laidLooks := .later }
def FnPassedCardSaid : Prop := Claim7.holds Tryz.pinned (.plain (OpenSpec.ofChange fnPassedSpec)) fnPassedCard

/-- THE SECOND FORM's CARD OF 'laws.FnEdits'. -/
def fnEditsUptoCard : Claim7 := { stood := { row := fnEditsUptoRow, standIns := [], harness := (true, "220ee84eb48a30861306bb903e28d5bbb12396bdc221255f82ec1b6ba80eb379"), looks := true }, kinds := [], alts := [], laidByText := true, laidKinds := [.data, .data, .data, .data, .pinned], laidTests := true, laidLooks := .later }
def FnEditsUptoCardSaid : Prop := Claim7.holds Tryz.pinned (.plain (OpenSpec.upto fnEditsSpec)) fnEditsUptoCard

/-- THE SECOND FORM's CARD OF 'laws.FnUndone'. -/
def fnUndoneUptoCard : Claim7 := { stood := { row := fnUndoneUptoRow, standIns := [], harness := (true, "220ee84eb48a30861306bb903e28d5bbb12396bdc221255f82ec1b6ba80eb379"), looks := true }, kinds := [], alts := [], laidByText := true, laidKinds := [.data, .data, .data, .data, .sentinel, .sentinel, .pinned], laidTests := true, laidLooks := .later }
def FnUndoneUptoCardSaid : Prop := Claim7.holds Tryz.pinned (.plain (OpenSpec.upto fnUndoneSpec)) fnUndoneUptoCard

/-- THE SECOND FORM's CARD OF 'laws.FnPassed'. -/
def fnPassedUptoCard : Claim7 := { stood := { row := fnPassedUptoRow, standIns := [], harness := (true, "220ee84eb48a30861306bb903e28d5bbb12396bdc221255f82ec1b6ba80eb379"), looks := true }, kinds := [], alts := [], laidByText := true, laidKinds := [.data, .data, .data, .data, .pinned], laidTests := true, laidLooks := .later }
def FnPassedUptoCardSaid : Prop := Claim7.holds Tryz.pinned (.plain (OpenSpec.upto fnPassedSpec)) fnPassedUptoCard
end Rows
end Go.Proofs.YtdacndamehiglaaGreatDoor
