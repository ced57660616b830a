/-
  DERIVED. GIVEN WITH THE SEED: THE CARDS: each row of YtoemoifeiigkoaaDoorRows.lean that lists a variable, with what it lists TIED to the program's text (the seventh form; the later family's looks); each row that meets fmt, with fmt's text TOLD by the authors' own Lean function (tested against real Go, not proved from fmt's source: count such statements apart). THE CARD IS WHAT COUNTS. Prove the row's statement (the work); the ties are given (YtoemoifeiigkoaaDoorTie.lean); close each card by the builder's one call (the guide's Derived/Test/ToyasCard.lean, 'card_holds'). Laid BY PROGRAM, IN A SANDBOX (cutbox-door.mjs). By AI agents, Wed Nov 11 2026. No macro, syntax, notation, axiom, sorry.
-/
import Derived.Test.YtoemoifeiigkoaaDoorRows
import GoSem.ClaimSeven
namespace Go.Proofs.YtoemoifeiigkoaaDoor
namespace Rows

/-- THE TIED CARD OF 'laws.FnJoins'. -/
def fnJoinsCard : Claim7 := { stood := { row := fnJoinsRow, standIns := [], harness := (true, "26a45ec236ed9a3e1678976c8917dfaadc447665bcbe9d7b1fce385049971010"), looks := false }, kinds := [], alts := [], laidByText := true, laidKinds := [.data, .data, .data], laidTests := true, laidLooks := .later }
def FnJoinsCardSaid : Prop := Claim7.holds Tryd.pinned (.plain (OpenSpec.ofChange fnJoinsSpec)) fnJoinsCard

/-- THE TIED CARD OF 'laws.FnExactEditText'. -/
def fnExactEditTextCard : Claim7 := { stood := { row := fnExactEditTextRow, standIns := [], harness := (true, "26a45ec236ed9a3e1678976c8917dfaadc447665bcbe9d7b1fce385049971010"), looks := false }, kinds := [], alts := [], laidByText := true, laidKinds := [.data, .data, .data], laidTests := true, laidLooks := .later }
def FnExactEditTextCardSaid : Prop := Claim7.holds Tryd.pinned (.plain (OpenSpec.ofChange fnExactEditTextSpec)) fnExactEditTextCard

/-- THE SECOND FORM's CARD OF 'laws.FnJoins'. -/
def fnJoinsUptoCard : Claim7 := { stood := { row := fnJoinsUptoRow, standIns := [], harness := (true, "26a45ec236ed9a3e1678976c8917dfaadc447665bcbe9d7b1fce385049971010"), looks := false }, kinds := [], alts := [], laidByText := true, laidKinds := [.data, .data, .data], laidTests := true, laidLooks := .later }
def FnJoinsUptoCardSaid : Prop := Claim7.holds Tryd.pinned (.plain (OpenSpec.upto fnJoinsSpec)) fnJoinsUptoCard

/-- THE SECOND FORM's CARD OF 'laws.FnExactEditText'. -/
def fnExactEditTextUptoCard : Claim7 := { stood := { row := fnExactEditTextUptoRow, standIns := [], harness := (true, "26a45ec236ed9a3e1678976c8917dfaadc447665bcbe9d7b1fce385049971010"), looks := false }, kinds := [], alts := [], laidByText := true, laidKinds := [.data, .data, .data], laidTests := true, laidLooks := .later }
def FnExactEditTextUptoCardSaid : Prop := Claim7.holds Tryd.pinned (.plain (OpenSpec.upto fnExactEditTextSpec)) fnExactEditTextUptoCard
end Rows
end Go.Proofs.YtoemoifeiigkoaaDoor
