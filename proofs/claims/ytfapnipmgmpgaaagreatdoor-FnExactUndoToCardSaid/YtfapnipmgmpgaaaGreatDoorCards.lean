/-
  DERIVED. GIVEN WITH THE SEED: THE CARDS: each row of YtfapnipmgmpgaaaGreatDoorRows.lean that lists a variable, with what it lists TIED to the program's text (the seventh form; the later family's looks); each row that meets fmt, with fmt's text TOLD by the authors' own Lean function (tested against real Go, not proved from fmt's source: count such statements apart). THE CARD IS WHAT COUNTS. Prove the row's statement (the work); the ties are given (YtfapnipmgmpgaaaGreatDoorTie.lean); close each card by the builder's one call (the guide's Derived/Test/ToyasCard.lean, 'card_holds'). Laid BY PROGRAM, IN A SANDBOX (cutbox-door.mjs). By AI agents, Wed Nov 11 2026. No macro, syntax, notation, axiom, sorry.
-/
import Derived.Test.YtfapnipmgmpgaaaGreatDoorRows
import GoSem.ClaimSeven
namespace Go.Proofs.YtfapnipmgmpgaaaGreatDoor
namespace Rows

/-- THE TIED CARD OF 'laws.FnExactApplyEdit'. -/
def fnExactApplyEditCard : Claim7 := { stood := { row := fnExactApplyEditRow, standIns := [], harness := (true, "bef0d6b29085b6c285863654b77ada8a85653c73463660072577b49908c445f4"), looks := true }, kinds := [], alts := [], laidByText := true, laidKinds := [.data, .data, .data, .data, .pinned], laidTests := true, laidLooks := .later }
def FnExactApplyEditCardSaid : Prop := Claim7.holds Tryz.pinned (.plain (OpenSpec.ofChange fnExactApplyEditSpec)) fnExactApplyEditCard

/-- THE TIED CARD OF 'laws.FnExactApplyEdits'. -/
def fnExactApplyEditsCard : Claim7 := { stood := { row := fnExactApplyEditsRow, standIns := [], harness := (true, "bef0d6b29085b6c285863654b77ada8a85653c73463660072577b49908c445f4"), looks := true }, kinds := [], alts := [], laidByText := true, laidKinds := [.data, .data, .data, .data, .pinned], laidTests := true, laidLooks := .later }
def FnExactApplyEditsCardSaid : Prop := Claim7.holds Tryz.pinned (.plain (OpenSpec.ofChange fnExactApplyEditsSpec)) fnExactApplyEditsCard

/-- THE TIED CARD OF 'laws.FnExactInverseEdits'. -/
def fnExactInverseEditsCard : Claim7 := { stood := { row := fnExactInverseEditsRow, standIns := [], harness := (true, "bef0d6b29085b6c285863654b77ada8a85653c73463660072577b49908c445f4"), looks := true }, kinds := [], alts := [], laidByText := true, laidKinds := [.data, .data, .data, .data, .pinned], laidTests := true, laidLooks := .later }
def FnExactInverseEditsCardSaid : Prop := Claim7.holds Tryz.pinned (.plain (OpenSpec.ofChange fnExactInverseEditsSpec)) fnExactInverseEditsCard

/-- THE TIED CARD OF 'laws.FnExactMergeEdits'. -/
def fnExactMergeEditsCard : Claim7 := { stood := { row := fnExactMergeEditsRow, standIns := [], harness := (true, "bef0d6b29085b6c285863654b77ada8a85653c73463660072577b49908c445f4"), looks := true }, kinds := [], alts := [], laidByText := true, laidKinds := [.data, .data, .data, .data, .pinned], laidTests := true, laidLooks := .later }
def FnExactMergeEditsCardSaid : Prop := Claim7.holds Tryz.pinned (.plain (OpenSpec.ofChange fnExactMergeEditsSpec)) fnExactMergeEditsCard

/-- THE TIED CARD OF 'laws.FnExactUndoTo'. -/
def fnExactUndoToCard : Claim7 := { stood := { row := fnExactUndoToRow, standIns := [], harness := (true, "bef0d6b29085b6c285863654b77ada8a85653c73463660072577b49908c445f4"), looks := true }, kinds := [], alts := [], laidByText := true, laidKinds := [.data, .data, .data, .data, .pinned], laidTests := true, laidLooks := .later }
def FnExactUndoToCardSaid : Prop := Claim7.holds Tryz.pinned (.plain (OpenSpec.ofChange fnExactUndoToSpec)) fnExactUndoToCard

/-- THE TIED CARD OF 'laws.FnExactReadEdit'. -/
def fnExactReadEditCard : Claim7 := { stood := { row := fnExactReadEditRow, standIns := [], harness := (true, "bef0d6b29085b6c285863654b77ada8a85653c73463660072577b49908c445f4"), looks := true }, kinds := [], alts := [], laidByText := true, laidKinds := [.data, .data, .data, .data, .sentinel, .sentinel, .pinned], laidTests := true, laidLooks := .later }
def FnExactReadEditCardSaid : Prop := Claim7.holds Tryz.pinned (.plain (OpenSpec.ofChange fnExactReadEditSpec)) fnExactReadEditCard

/-- THE SECOND FORM's CARD OF 'laws.FnExactApplyEdit'. -/
def fnExactApplyEditUptoCard : Claim7 := { stood := { row := fnExactApplyEditUptoRow, standIns := [], harness := (true, "bef0d6b29085b6c285863654b77ada8a85653c73463660072577b49908c445f4"), looks := true }, kinds := [], alts := [], laidByText := true, laidKinds := [.data, .data, .data, .data, .pinned], laidTests := true, laidLooks := .later }
def FnExactApplyEditUptoCardSaid : Prop := Claim7.holds Tryz.pinned (.plain (OpenSpec.upto fnExactApplyEditSpec)) fnExactApplyEditUptoCard

/-- THE SECOND FORM's CARD OF 'laws.FnExactApplyEdits'. -/
def fnExactApplyEditsUptoCard : Claim7 := { stood := { row := fnExactApplyEditsUptoRow, standIns := [], harness := (true, "bef0d6b29085b6c285863654b77ada8a85653c73463660072577b49908c445f4"), looks := true }, kinds := [], alts := [], laidByText := true, laidKinds := [.data, .data, .data, .data, .pinned], laidTests := true, laidLooks := .later }
def FnExactApplyEditsUptoCardSaid : Prop := Claim7.holds Tryz.pinned (.plain (OpenSpec.upto fnExactApplyEditsSpec)) fnExactApplyEditsUptoCard

/-- THE SECOND FORM's CARD OF 'laws.FnExactInverseEdits'. -/
def fnExactInverseEditsUptoCard : Claim7 := { stood := { row := fnExactInverseEditsUptoRow, standIns := [], harness := (true, "bef0d6b29085b6c285863654b77ada8a85653c73463660072577b49908c445f4"), looks := true }, kinds := [], alts := [], laidByText := true, laidKinds := [.data, .data, .data, .data, .pinned], laidTests := true, laidLooks := .later }
def FnExactInverseEditsUptoCardSaid : Prop := Claim7.holds Tryz.pinned (.plain (OpenSpec.upto fnExactInverseEditsSpec)) fnExactInverseEditsUptoCard

/-- THE SECOND FORM's CARD OF 'laws.FnExactMergeEdits'. -/
def fnExactMergeEditsUptoCard : Claim7 := { stood := { row := fnExactMergeEditsUptoRow, standIns := [], harness := (true, "bef0d6b29085b6c285863654b77ada8a85653c73463660072577b49908c445f4"), looks := true }, kinds := [], alts := [], laidByText := true, laidKinds := [.data, .data, .data, .data, .pinned], laidTests := true, laidLooks := .later }
def FnExactMergeEditsUptoCardSaid : Prop := Claim7.holds Tryz.pinned (.plain (OpenSpec.upto fnExactMergeEditsSpec)) fnExactMergeEditsUptoCard

/-- THE SECOND FORM's CARD OF 'laws.FnExactUndoTo'. -/
def fnExactUndoToUptoCard : Claim7 := { stood := { row := fnExactUndoToUptoRow, standIns := [], harness := (true, "bef0d6b29085b6c285863654b77ada8a85653c73463660072577b49908c445f4"), looks := true }, kinds := [], alts := [], laidByText := true, laidKinds := [.data, .data, .data, .data, .pinned], laidTests := true, laidLooks := .later }
def FnExactUndoToUptoCardSaid : Prop := Claim7.holds Tryz.pinned (.plain (OpenSpec.upto fnExactUndoToSpec)) fnExactUndoToUptoCard

/-- THE SECOND FORM's CARD OF 'laws.FnExactReadEdit'. -/
def fnExactReadEditUptoCard : Claim7 := { stood := { row := fnExactReadEditUptoRow, standIns := [], harness := (true, "bef0d6b29085b6c285863654b77ada8a85653c73463660072577b49908c445f4"), looks := true }, kinds := [], alts := [], laidByText := true, laidKinds := [.data, .data, .data, .data, .sentinel, .sentinel, .pinned], laidTests := true, laidLooks := .later }
def FnExactReadEditUptoCardSaid : Prop := Claim7.holds Tryz.pinned (.plain (OpenSpec.upto fnExactReadEditSpec)) fnExactReadEditUptoCard
end Rows
end Go.Proofs.YtfapnipmgmpgaaaGreatDoor
