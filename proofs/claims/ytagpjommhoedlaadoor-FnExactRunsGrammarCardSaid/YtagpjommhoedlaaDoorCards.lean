/-
  DERIVED. GIVEN WITH THE SEED: THE CARDS: each row of YtagpjommhoedlaaDoorRows.lean that lists a variable, with what it lists TIED to the program's text (the seventh form; the later family's looks); each row that meets fmt, with fmt's text TOLD by the authors' own Lean function (tested against real Go, not proved from fmt's source: count such statements apart). THE CARD IS WHAT COUNTS. Prove the row's statement (the work); the ties are given (YtagpjommhoedlaaDoorTie.lean); close each card by the builder's one call (the guide's Derived/Test/ToyasCard.lean, 'card_holds'). Laid BY PROGRAM, IN A SANDBOX (cutbox-door.mjs). By AI agents, Wed Nov 11 2026. No macro, syntax, notation, axiom, sorry.
-/
import Derived.Test.YtagpjommhoedlaaDoorRows
import GoSem.ClaimSeven
namespace Go.Proofs.YtagpjommhoedlaaDoor
namespace Rows

/-- THE TIED CARD OF 'laws.FnJoins'. -/
def fnJoinsCard : Claim7 := { stood := { row := fnJoinsRow, standIns := [], harness := (true, "bbb848147665756ab3334fb8d5bc66932097332702b545de321458049c7c9fea"), looks := false }, kinds := [], alts := [], laidByText := true, laidKinds := [.data, .data, .data], laidTests := true, laidLooks := .later }
def FnJoinsCardSaid : Prop := Claim7.holds Tryd.pinned (.plain (OpenSpec.ofChange fnJoinsSpec)) fnJoinsCard

/-- THE TIED CARD OF 'laws.FnExactRunsGrammar'. -/
def fnExactRunsGrammarCard : Claim7 := { stood := { row := fnExactRunsGrammarRow, standIns := [], harness := (true, "bbb848147665756ab3334fb8d5bc66932097332702b545de321458049c7c9fea"), looks := false }, kinds := [], alts := [], laidByText := true, laidKinds := [.data, .data, .data], laidTests := true, laidLooks := .later }
def FnExactRunsGrammarCardSaid : Prop := Claim7.holds Tryd.pinned (.plain (OpenSpec.ofChange fnExactRunsGrammarSpec)) fnExactRunsGrammarCard

/-- THE SECOND FORM's CARD OF 'laws.FnJoins'. -/
def fnJoinsUptoCard : Claim7 := { stood := { row := fnJoinsUptoRow, standIns := [], harness := (true, "bbb848147665756ab3334fb8d5bc66932097332702b545de321458049c7c9fea"), looks := false }, kinds := [], alts := [], laidByText := true, laidKinds := [.data, .data, .data], laidTests := true, laidLooks := .later }
def FnJoinsUptoCardSaid : Prop := Claim7.holds Tryd.pinned (.plain (OpenSpec.upto fnJoinsSpec)) fnJoinsUptoCard

/-- THE SECOND FORM's CARD OF 'laws.FnExactRunsGrammar'. -/
def fnExactRunsGrammarUptoCard : Claim7 := { stood := { row := fnExactRunsGrammarUptoRow, standIns := [], harness := (true, "bbb848147665756ab3334fb8d5bc66932097332702b545de321458049c7c9fea"), looks := false }, kinds := [], alts := [], laidByText := true, laidKinds := [.data, .data, .data], laidTests := true, laidLooks := .later }
def FnExactRunsGrammarUptoCardSaid : Prop := Claim7.holds Tryd.pinned (.plain (OpenSpec.upto fnExactRunsGrammarSpec)) fnExactRunsGrammarUptoCard
end Rows
end Go.Proofs.YtagpjommhoedlaaDoor
