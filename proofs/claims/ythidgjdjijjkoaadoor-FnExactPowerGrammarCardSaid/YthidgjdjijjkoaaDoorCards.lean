/-
  DERIVED. GIVEN WITH THE SEED: THE CARDS: each row of YthidgjdjijjkoaaDoorRows.lean that lists a variable, with what it lists TIED to the program's text (the seventh form; the later family's looks); each row that meets fmt, with fmt's text TOLD by the authors' own Lean function (tested against real Go, not proved from fmt's source: count such statements apart). THE CARD IS WHAT COUNTS. Prove the row's statement (the work); the ties are given (YthidgjdjijjkoaaDoorTie.lean); close each card by the builder's one call (the guide's Derived/Test/ToyasCard.lean, 'card_holds'). Laid BY PROGRAM, IN A SANDBOX (cutbox-door.mjs). By AI agents, Wed Nov 11 2026. No macro, syntax, notation, axiom, sorry.
-/
import Derived.Test.YthidgjdjijjkoaaDoorRows
import GoSem.ClaimSeven
namespace Go.Proofs.YthidgjdjijjkoaaDoor
namespace Rows

/-- THE TIED CARD OF 'laws.FnExactDeedText'. -/
def fnExactDeedTextCard : Claim7 := { stood := { row := fnExactDeedTextRow, standIns := [], harness := (true, "b78f81a177e04069ba4d60edddcef545af951b87e2352c2b85c8c7a1a4d018de"), looks := false }, kinds := [], alts := [], laidByText := true, laidKinds := [.data, .data, .data], laidTests := true, laidLooks := .later }
def FnExactDeedTextCardSaid : Prop := Claim7.holds Tryd.pinned (.plain (OpenSpec.ofChange fnExactDeedTextSpec)) fnExactDeedTextCard

/-- THE TIED CARD OF 'laws.FnExactPowerGrammar'. -/
def fnExactPowerGrammarCard : Claim7 := { stood := { row := fnExactPowerGrammarRow, standIns := [], harness := (true, "b78f81a177e04069ba4d60edddcef545af951b87e2352c2b85c8c7a1a4d018de"), looks := false }, kinds := [], alts := [], laidByText := true, laidKinds := [.data, .data, .data], laidTests := true, laidLooks := .later }
def FnExactPowerGrammarCardSaid : Prop := Claim7.holds Tryd.pinned (.plain (OpenSpec.ofChange fnExactPowerGrammarSpec)) fnExactPowerGrammarCard

/-- THE SECOND FORM's CARD OF 'laws.FnExactDeedText'. -/
def fnExactDeedTextUptoCard : Claim7 := { stood := { row := fnExactDeedTextUptoRow, standIns := [], harness := (true, "b78f81a177e04069ba4d60edddcef545af951b87e2352c2b85c8c7a1a4d018de"), looks := false }, kinds := [], alts := [], laidByText := true, laidKinds := [.data, .data, .data], laidTests := true, laidLooks := .later }
def FnExactDeedTextUptoCardSaid : Prop := Claim7.holds Tryd.pinned (.plain (OpenSpec.upto fnExactDeedTextSpec)) fnExactDeedTextUptoCard

/-- THE SECOND FORM's CARD OF 'laws.FnExactPowerGrammar'. -/
def fnExactPowerGrammarUptoCard : Claim7 := { stood := { row := fnExactPowerGrammarUptoRow, standIns := [], harness := (true, "b78f81a177e04069ba4d60edddcef545af951b87e2352c2b85c8c7a1a4d018de"), looks := false }, kinds := [], alts := [], laidByText := true, laidKinds := [.data, .data, .data], laidTests := true, laidLooks := .later }
def FnExactPowerGrammarUptoCardSaid : Prop := Claim7.holds Tryd.pinned (.plain (OpenSpec.upto fnExactPowerGrammarSpec)) fnExactPowerGrammarUptoCard
end Rows
end Go.Proofs.YthidgjdjijjkoaaDoor
