/-
  DERIVED. GIVEN WITH THE SEED: THE CARDS: each row of YtfhiaifdigefdaaDoorRows.lean that lists a variable, with what it lists TIED to the program's text (the seventh form; the later family's looks); each row that meets fmt, with fmt's text TOLD by the authors' own Lean function (tested against real Go, not proved from fmt's source: count such statements apart). THE CARD IS WHAT COUNTS. Prove the row's statement (the work); the ties are given (YtfhiaifdigefdaaDoorTie.lean); close each card by the builder's one call (the guide's Derived/Test/ToyasCard.lean, 'card_holds'). Laid BY PROGRAM, IN A SANDBOX (cutbox-door.mjs). By AI agents, Wed Nov 11 2026. No macro, syntax, notation, axiom, sorry.
-/
import Derived.Test.YtfhiaifdigefdaaDoorRows
import GoSem.ClaimSeven
namespace Go.Proofs.YtfhiaifdigefdaaDoor
namespace Rows

/-- THE TIED CARD OF 'laws.FnEqualLong'. -/
def fnEqualLongCard : Claim7 := { stood := { row := fnEqualLongRow, standIns := [], harness := (true, "e5ea91201b7b1cb8854e435a70996f6dfe871515d71d9a3ad6ba66f77c1de241"), looks := false }, kinds := [], alts := [], laidByText := true, laidKinds := [.data, .data, .data], laidTests := true, laidLooks := .later }
def FnEqualLongCardSaid : Prop := Claim7.holds Tryd.pinned (.plain (OpenSpec.ofChange fnEqualLongSpec)) fnEqualLongCard

/-- THE TIED CARD OF 'laws.FnPeriods'. -/
def fnPeriodsCard : Claim7 := { stood := { row := fnPeriodsRow, standIns := [], harness := (true, "e5ea91201b7b1cb8854e435a70996f6dfe871515d71d9a3ad6ba66f77c1de241"), looks := false }, kinds := [], alts := [], laidByText := true, laidKinds := [.data, .data, .data], laidTests := true, laidLooks := .later }
def FnPeriodsCardSaid : Prop := Claim7.holds Tryd.pinned (.plain (OpenSpec.ofChange fnPeriodsSpec)) fnPeriodsCard

/-- THE SECOND FORM's CARD OF 'laws.FnEqualLong'. -/
def fnEqualLongUptoCard : Claim7 := { stood := { row := fnEqualLongUptoRow, standIns := [], harness := (true, "e5ea91201b7b1cb8854e435a70996f6dfe871515d71d9a3ad6ba66f77c1de241"), looks := false }, kinds := [], alts := [], laidByText := true, laidKinds := [.data, .data, .data], laidTests := true, laidLooks := .later }
def FnEqualLongUptoCardSaid : Prop := Claim7.holds Tryd.pinned (.plain (OpenSpec.upto fnEqualLongSpec)) fnEqualLongUptoCard

/-- THE SECOND FORM's CARD OF 'laws.FnPeriods'. -/
def fnPeriodsUptoCard : Claim7 := { stood := { row := fnPeriodsUptoRow, standIns := [], harness := (true, "e5ea91201b7b1cb8854e435a70996f6dfe871515d71d9a3ad6ba66f77c1de241"), looks := false }, kinds := [], alts := [], laidByText := true, laidKinds := [.data, .data, .data], laidTests := true, laidLooks := .later }
def FnPeriodsUptoCardSaid : Prop := Claim7.holds Tryd.pinned (.plain (OpenSpec.upto fnPeriodsSpec)) fnPeriodsUptoCard
end Rows
end Go.Proofs.YtfhiaifdigefdaaDoor
