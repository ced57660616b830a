/-
  No cell of these rows narrows 'for every input' (looked for: loops, veiled, ifaces, maps, wideKeys, modest, calm, conditions, laid).
  DERIVED. THE GIVEN ROWS OF THIS SEAT. 10 by the template 'for every input the law returns true; each argument reads behind the call as it read before'; 0 by the template 'total and deterministic' (their statements: YthidgjdjijjkoaaTotals.lean).
  GIVEN WITH THE SEED: the statements are not yours to turn. If you find one false, say at which input.
  Laid BY PROGRAM, IN A SANDBOX (cutbox-rows.mjs): the forced cells as the released guide's own fill.sh prints them over the translation 71b475439d7b842b… (all of the seat's roots in one cut). By AI agents, Wed Nov 11 2026. No macro, syntax, notation, axiom, sorry.
-/
import Derived.Test.YthidgjdjijjkoaaChecked
import GoSem.Claim
import GoSem.ClaimJoined
import GoSem.ClaimMapViews
import Derived.JoinedTies
import Derived.KernelRfl
namespace Go.Proofs.Ythidgjdjijjkoaa
/- THE CELL 'sum', in the pinned program and in every row, IS THE sha256 OF THE DUMP (.gsa) THAT YthidgjdjijjkoaaProg.lean LOADS. Nothing in Lean hashes anything: it is a label: what it is worth is what the hold of that sum in a sandbox is worth. -/
noncomputable def Try.pinned : Pinned := { name := "ythidgjdjijjkoaa", sum := "71b475439d7b842b58d26be35966c11b1a555004cb1de18e11327501a029106f", checked := Try.checked }
namespace Rows
def none {H : Type} : Left H := { results := [], args := [] }

/-- 'laws.FnExactValidDeed': WHATEVER THE INPUT: true; the input reads as it did. -/
def fnExactValidDeedSpec : ChangeSpec := { name := "fnExactValidDeed", fn := fun _ => fun
  | [d] => { results := [.lit (.bool true)], args := [d] }
  | _ => none }
def fnExactValidDeedRow : OpenClaim := { program := "ythidgjdjijjkoaa", sum := "71b475439d7b842b58d26be35966c11b1a555004cb1de18e11327501a029106f", func := "loop.example/g01133/laws.FnExactValidDeed", spec := "fnExactValidDeed", plainKeys := false, apart := false }
def FnExactValidDeedSaid : Prop := fnExactValidDeedRow.holds Try.pinned (OpenSpec.ofChange fnExactValidDeedSpec)

/-- ITS FALSE NEIGHBOUR: 'it returns false'. Refute it at one input. -/
def fnExactValidDeedWrong : ChangeSpec := { name := "fnExactValidDeed", fn := fun _ => fun
  | [d] => { results := [.lit (.bool false)], args := [d] }
  | _ => none }
def FnExactValidDeedWrongFalsely : Prop := fnExactValidDeedRow.holds Try.pinned (OpenSpec.ofChange fnExactValidDeedWrong)

/-- 'laws.FnExactRunWord': WHATEVER THE INPUT: true; the input reads as it did. -/
def fnExactRunWordSpec : ChangeSpec := { name := "fnExactRunWord", fn := fun _ => fun
  | [d1, d2, d3] => { results := [.lit (.bool true)], args := [d1, d2, d3] }
  | _ => none }
def fnExactRunWordRow : OpenClaim := { program := "ythidgjdjijjkoaa", sum := "71b475439d7b842b58d26be35966c11b1a555004cb1de18e11327501a029106f", func := "loop.example/g01133/laws.FnExactRunWord", spec := "fnExactRunWord", unfollowed := true, recurses := true, plainKeys := false, apart := false }
def FnExactRunWordSaid : Prop := fnExactRunWordRow.holds Try.pinned (OpenSpec.ofChange fnExactRunWordSpec)

/-- ITS FALSE NEIGHBOUR: 'it returns false'. Refute it at one input. -/
def fnExactRunWordWrong : ChangeSpec := { name := "fnExactRunWord", fn := fun _ => fun
  | [d1, d2, d3] => { results := [.lit (.bool false)], args := [d1, d2, d3] }
  | _ => none }
def FnExactRunWordWrongFalsely : Prop := fnExactRunWordRow.holds Try.pinned (OpenSpec.ofChange fnExactRunWordWrong)

/-- 'laws.FnExactValidDepot': WHATEVER THE INPUT: true; the input reads as it did. -/
def fnExactValidDepotSpec : ChangeSpec := { name := "fnExactValidDepot", fn := fun _ => fun
  | [d] => { results := [.lit (.bool true)], args := [d] }
  | _ => none }
def fnExactValidDepotRow : OpenClaim := { program := "ythidgjdjijjkoaa", sum := "71b475439d7b842b58d26be35966c11b1a555004cb1de18e11327501a029106f", func := "loop.example/g01133/laws.FnExactValidDepot", spec := "fnExactValidDepot", unfollowed := true, recurses := true, plainKeys := false, apart := false }
def FnExactValidDepotSaid : Prop := fnExactValidDepotRow.holds Try.pinned (OpenSpec.ofChange fnExactValidDepotSpec)

/-- ITS FALSE NEIGHBOUR: 'it returns false'. Refute it at one input. -/
def fnExactValidDepotWrong : ChangeSpec := { name := "fnExactValidDepot", fn := fun _ => fun
  | [d] => { results := [.lit (.bool false)], args := [d] }
  | _ => none }
def FnExactValidDepotWrongFalsely : Prop := fnExactValidDepotRow.holds Try.pinned (OpenSpec.ofChange fnExactValidDepotWrong)

/-- 'laws.FnExactTurnGrammar': WHATEVER THE INPUT: true; the input reads as it did. -/
def fnExactTurnGrammarSpec : ChangeSpec := { name := "fnExactTurnGrammar", fn := fun _ => fun
  | [d] => { results := [.lit (.bool true)], args := [d] }
  | _ => none }
def fnExactTurnGrammarRow : OpenClaim := { program := "ythidgjdjijjkoaa", sum := "71b475439d7b842b58d26be35966c11b1a555004cb1de18e11327501a029106f", func := "loop.example/g01133/laws.FnExactTurnGrammar", spec := "fnExactTurnGrammar", plainKeys := false, apart := false }
def FnExactTurnGrammarSaid : Prop := fnExactTurnGrammarRow.holds Try.pinned (OpenSpec.ofChange fnExactTurnGrammarSpec)

/-- ITS FALSE NEIGHBOUR: 'it returns false'. Refute it at one input. -/
def fnExactTurnGrammarWrong : ChangeSpec := { name := "fnExactTurnGrammar", fn := fun _ => fun
  | [d] => { results := [.lit (.bool false)], args := [d] }
  | _ => none }
def FnExactTurnGrammarWrongFalsely : Prop := fnExactTurnGrammarRow.holds Try.pinned (OpenSpec.ofChange fnExactTurnGrammarWrong)

/-- 'laws.FnExactJoinGrammars': WHATEVER THE INPUT: true; the input reads as it did. -/
def fnExactJoinGrammarsSpec : ChangeSpec := { name := "fnExactJoinGrammars", fn := fun _ => fun
  | [d1, d2] => { results := [.lit (.bool true)], args := [d1, d2] }
  | _ => none }
def fnExactJoinGrammarsRow : OpenClaim := { program := "ythidgjdjijjkoaa", sum := "71b475439d7b842b58d26be35966c11b1a555004cb1de18e11327501a029106f", func := "loop.example/g01133/laws.FnExactJoinGrammars", spec := "fnExactJoinGrammars", plainKeys := false, apart := false }
def FnExactJoinGrammarsSaid : Prop := fnExactJoinGrammarsRow.holds Try.pinned (OpenSpec.ofChange fnExactJoinGrammarsSpec)

/-- ITS FALSE NEIGHBOUR: 'it returns false'. Refute it at one input. -/
def fnExactJoinGrammarsWrong : ChangeSpec := { name := "fnExactJoinGrammars", fn := fun _ => fun
  | [d1, d2] => { results := [.lit (.bool false)], args := [d1, d2] }
  | _ => none }
def FnExactJoinGrammarsWrongFalsely : Prop := fnExactJoinGrammarsRow.holds Try.pinned (OpenSpec.ofChange fnExactJoinGrammarsWrong)

/-- 'laws.FnExactRunGrammar': WHATEVER THE INPUT: true; the input reads as it did. -/
def fnExactRunGrammarSpec : ChangeSpec := { name := "fnExactRunGrammar", fn := fun _ => fun
  | [d1, d2, d3] => { results := [.lit (.bool true)], args := [d1, d2, d3] }
  | _ => none }
def fnExactRunGrammarRow : OpenClaim := { program := "ythidgjdjijjkoaa", sum := "71b475439d7b842b58d26be35966c11b1a555004cb1de18e11327501a029106f", func := "loop.example/g01133/laws.FnExactRunGrammar", spec := "fnExactRunGrammar", unfollowed := true, recurses := true, plainKeys := false, apart := false }
def FnExactRunGrammarSaid : Prop := fnExactRunGrammarRow.holds Try.pinned (OpenSpec.ofChange fnExactRunGrammarSpec)

/-- ITS FALSE NEIGHBOUR: 'it returns false'. Refute it at one input. -/
def fnExactRunGrammarWrong : ChangeSpec := { name := "fnExactRunGrammar", fn := fun _ => fun
  | [d1, d2, d3] => { results := [.lit (.bool false)], args := [d1, d2, d3] }
  | _ => none }
def FnExactRunGrammarWrongFalsely : Prop := fnExactRunGrammarRow.holds Try.pinned (OpenSpec.ofChange fnExactRunGrammarWrong)

/-- 'laws.FnExactAcceptsGrammar': WHATEVER THE INPUT: true; the input reads as it did. -/
def fnExactAcceptsGrammarSpec : ChangeSpec := { name := "fnExactAcceptsGrammar", fn := fun _ => fun
  | [d1, d2] => { results := [.lit (.bool true)], args := [d1, d2] }
  | _ => none }
def fnExactAcceptsGrammarRow : OpenClaim := { program := "ythidgjdjijjkoaa", sum := "71b475439d7b842b58d26be35966c11b1a555004cb1de18e11327501a029106f", func := "loop.example/g01133/laws.FnExactAcceptsGrammar", spec := "fnExactAcceptsGrammar", unfollowed := true, recurses := true, plainKeys := false, apart := false }
def FnExactAcceptsGrammarSaid : Prop := fnExactAcceptsGrammarRow.holds Try.pinned (OpenSpec.ofChange fnExactAcceptsGrammarSpec)

/-- ITS FALSE NEIGHBOUR: 'it returns false'. Refute it at one input. -/
def fnExactAcceptsGrammarWrong : ChangeSpec := { name := "fnExactAcceptsGrammar", fn := fun _ => fun
  | [d1, d2] => { results := [.lit (.bool false)], args := [d1, d2] }
  | _ => none }
def FnExactAcceptsGrammarWrongFalsely : Prop := fnExactAcceptsGrammarRow.holds Try.pinned (OpenSpec.ofChange fnExactAcceptsGrammarWrong)

/-- 'laws.FnExactStateAfter': WHATEVER THE INPUT: true; the input reads as it did. -/
def fnExactStateAfterSpec : ChangeSpec := { name := "fnExactStateAfter", fn := fun _ => fun
  | [d1, d2, d3] => { results := [.lit (.bool true)], args := [d1, d2, d3] }
  | _ => none }
def fnExactStateAfterRow : OpenClaim := { program := "ythidgjdjijjkoaa", sum := "71b475439d7b842b58d26be35966c11b1a555004cb1de18e11327501a029106f", func := "loop.example/g01133/laws.FnExactStateAfter", spec := "fnExactStateAfter", unfollowed := true, recurses := true, plainKeys := false, apart := false }
def FnExactStateAfterSaid : Prop := fnExactStateAfterRow.holds Try.pinned (OpenSpec.ofChange fnExactStateAfterSpec)

/-- ITS FALSE NEIGHBOUR: 'it returns false'. Refute it at one input. -/
def fnExactStateAfterWrong : ChangeSpec := { name := "fnExactStateAfter", fn := fun _ => fun
  | [d1, d2, d3] => { results := [.lit (.bool false)], args := [d1, d2, d3] }
  | _ => none }
def FnExactStateAfterWrongFalsely : Prop := fnExactStateAfterRow.holds Try.pinned (OpenSpec.ofChange fnExactStateAfterWrong)

/-- 'laws.FnExactPartGrammar': WHATEVER THE INPUT: true; the input reads as it did. -/
def fnExactPartGrammarSpec : ChangeSpec := { name := "fnExactPartGrammar", fn := fun _ => fun
  | [d1, d2, d3] => { results := [.lit (.bool true)], args := [d1, d2, d3] }
  | _ => none }
def fnExactPartGrammarRow : OpenClaim := { program := "ythidgjdjijjkoaa", sum := "71b475439d7b842b58d26be35966c11b1a555004cb1de18e11327501a029106f", func := "loop.example/g01133/laws.FnExactPartGrammar", spec := "fnExactPartGrammar", unfollowed := true, recurses := true, plainKeys := false, apart := false }
def FnExactPartGrammarSaid : Prop := fnExactPartGrammarRow.holds Try.pinned (OpenSpec.ofChange fnExactPartGrammarSpec)

/-- ITS FALSE NEIGHBOUR: 'it returns false'. Refute it at one input. -/
def fnExactPartGrammarWrong : ChangeSpec := { name := "fnExactPartGrammar", fn := fun _ => fun
  | [d1, d2, d3] => { results := [.lit (.bool false)], args := [d1, d2, d3] }
  | _ => none }
def FnExactPartGrammarWrongFalsely : Prop := fnExactPartGrammarRow.holds Try.pinned (OpenSpec.ofChange fnExactPartGrammarWrong)

/-- 'laws.FnExactPlaceAfter': WHATEVER THE INPUT: true; the input reads as it did. -/
def fnExactPlaceAfterSpec : ChangeSpec := { name := "fnExactPlaceAfter", fn := fun _ => fun
  | [d1, d2, d3] => { results := [.lit (.bool true)], args := [d1, d2, d3] }
  | _ => none }
def fnExactPlaceAfterRow : OpenClaim := { program := "ythidgjdjijjkoaa", sum := "71b475439d7b842b58d26be35966c11b1a555004cb1de18e11327501a029106f", func := "loop.example/g01133/laws.FnExactPlaceAfter", spec := "fnExactPlaceAfter", plainKeys := false, apart := false }
def FnExactPlaceAfterSaid : Prop := fnExactPlaceAfterRow.holds Try.pinned (OpenSpec.ofChange fnExactPlaceAfterSpec)

/-- ITS FALSE NEIGHBOUR: 'it returns false'. Refute it at one input. -/
def fnExactPlaceAfterWrong : ChangeSpec := { name := "fnExactPlaceAfter", fn := fun _ => fun
  | [d1, d2, d3] => { results := [.lit (.bool false)], args := [d1, d2, d3] }
  | _ => none }
def FnExactPlaceAfterWrongFalsely : Prop := fnExactPlaceAfterRow.holds Try.pinned (OpenSpec.ofChange fnExactPlaceAfterWrong)

/- THE SECOND FORM. 'bulk': how many values and letters a reading holds, each counted each time it is reached (what is shared counts as often as it is met; a slice's spare places count too). A statement '..UptoSaid' is the law's where the arguments, and the package variables that the reading takes, are together of bulk at most 1048576: NARROWER than '..Said'. Prove '..Said' where nothing that the law and all that it calls make is longer than what came in: it says more and counts as full. Else prove '..UptoSaid'. A law counts once. -/
mutual
def uptoBulk {H : Type} : DataW H → Nat
  | .lit (.string bytes) => bytes.length + 1
  | .lit _ => 1
  | .nil => 1
  | .ptr d => uptoBulk d + 1
  | .slice elems spare => uptoBulkAll elems + uptoBulkAll spare + 1
  | .agg parts => uptoBulkAll parts + 1
  | .iface _ d => uptoBulk d + 1
  | .map entries => uptoBulkEntries entries + 1
  | .held _ => 1
def uptoBulkAll {H : Type} : List (DataW H) → Nat
  | [] => 0
  | d :: r => uptoBulk d + uptoBulkAll r
def uptoBulkEntries {H : Type} : List (Lit × DataW H) → Nat
  | [] => 0
  | x :: r => uptoBulkEntry x + uptoBulkEntries r
def uptoBulkEntry {H : Type} : Lit × DataW H → Nat
  | (.string bytes, d) => bytes.length + uptoBulk d + 1
  | (_, d) => uptoBulk d + 1
 end
def uptoSmall : (H : Type) → List (DataW H) → Bool := fun _ ds => decide (uptoBulkAll ds ≤ 1048576)
def OpenSpec.upto (s : _root_.Go.ChangeSpec) : _root_.Go.OpenSpec := { _root_.Go.OpenSpec.ofChange s with cond := some uptoSmall }

/-- 'laws.FnExactValidDeed', WHERE WHAT IT READS IS OF BULK AT MOST 1048576: true; the input reads as it did. -/
def fnExactValidDeedUptoRow : OpenClaim := { program := "ythidgjdjijjkoaa", sum := "71b475439d7b842b58d26be35966c11b1a555004cb1de18e11327501a029106f", func := "loop.example/g01133/laws.FnExactValidDeed", spec := "fnExactValidDeed", plainKeys := false, apart := false, narrowed := true }
def FnExactValidDeedUptoSaid : Prop := fnExactValidDeedUptoRow.holds Try.pinned (OpenSpec.upto fnExactValidDeedSpec)

/-- 'laws.FnExactRunWord', WHERE WHAT IT READS IS OF BULK AT MOST 1048576: true; the input reads as it did. -/
def fnExactRunWordUptoRow : OpenClaim := { program := "ythidgjdjijjkoaa", sum := "71b475439d7b842b58d26be35966c11b1a555004cb1de18e11327501a029106f", func := "loop.example/g01133/laws.FnExactRunWord", spec := "fnExactRunWord", unfollowed := true, recurses := true, plainKeys := false, apart := false, narrowed := true }
def FnExactRunWordUptoSaid : Prop := fnExactRunWordUptoRow.holds Try.pinned (OpenSpec.upto fnExactRunWordSpec)

/-- 'laws.FnExactValidDepot', WHERE WHAT IT READS IS OF BULK AT MOST 1048576: true; the input reads as it did. -/
def fnExactValidDepotUptoRow : OpenClaim := { program := "ythidgjdjijjkoaa", sum := "71b475439d7b842b58d26be35966c11b1a555004cb1de18e11327501a029106f", func := "loop.example/g01133/laws.FnExactValidDepot", spec := "fnExactValidDepot", unfollowed := true, recurses := true, plainKeys := false, apart := false, narrowed := true }
def FnExactValidDepotUptoSaid : Prop := fnExactValidDepotUptoRow.holds Try.pinned (OpenSpec.upto fnExactValidDepotSpec)

/-- 'laws.FnExactTurnGrammar', WHERE WHAT IT READS IS OF BULK AT MOST 1048576: true; the input reads as it did. -/
def fnExactTurnGrammarUptoRow : OpenClaim := { program := "ythidgjdjijjkoaa", sum := "71b475439d7b842b58d26be35966c11b1a555004cb1de18e11327501a029106f", func := "loop.example/g01133/laws.FnExactTurnGrammar", spec := "fnExactTurnGrammar", plainKeys := false, apart := false, narrowed := true }
def FnExactTurnGrammarUptoSaid : Prop := fnExactTurnGrammarUptoRow.holds Try.pinned (OpenSpec.upto fnExactTurnGrammarSpec)

/-- 'laws.FnExactJoinGrammars', WHERE WHAT IT READS IS OF BULK AT MOST 1048576: true; the input reads as it did. -/
def fnExactJoinGrammarsUptoRow : OpenClaim := { program := "ythidgjdjijjkoaa", sum := "71b475439d7b842b58d26be35966c11b1a555004cb1de18e11327501a029106f", func := "loop.example/g01133/laws.FnExactJoinGrammars", spec := "fnExactJoinGrammars", plainKeys := false, apart := false, narrowed := true }
def FnExactJoinGrammarsUptoSaid : Prop := fnExactJoinGrammarsUptoRow.holds Try.pinned (OpenSpec.upto fnExactJoinGrammarsSpec)

/-- 'laws.FnExactRunGrammar', WHERE WHAT IT READS IS OF BULK AT MOST 1048576: true; the input reads as it did. -/
def fnExactRunGrammarUptoRow : OpenClaim := { program := "ythidgjdjijjkoaa", sum := "71b475439d7b842b58d26be35966c11b1a555004cb1de18e11327501a029106f", func := "loop.example/g01133/laws.FnExactRunGrammar", spec := "fnExactRunGrammar", unfollowed := true, recurses := true, plainKeys := false, apart := false, narrowed := true }
def FnExactRunGrammarUptoSaid : Prop := fnExactRunGrammarUptoRow.holds Try.pinned (OpenSpec.upto fnExactRunGrammarSpec)

/-- 'laws.FnExactAcceptsGrammar', WHERE WHAT IT READS IS OF BULK AT MOST 1048576: true; the input reads as it did. -/
def fnExactAcceptsGrammarUptoRow : OpenClaim := { program := "ythidgjdjijjkoaa", sum := "71b475439d7b842b58d26be35966c11b1a555004cb1de18e11327501a029106f", func := "loop.example/g01133/laws.FnExactAcceptsGrammar", spec := "fnExactAcceptsGrammar", unfollowed := true, recurses := true, plainKeys := false, apart := false, narrowed := true }
def FnExactAcceptsGrammarUptoSaid : Prop := fnExactAcceptsGrammarUptoRow.holds Try.pinned (OpenSpec.upto fnExactAcceptsGrammarSpec)

/-- 'laws.FnExactStateAfter', WHERE WHAT IT READS IS OF BULK AT MOST 1048576: true; the input reads as it did. -/
def fnExactStateAfterUptoRow : OpenClaim := { program := "ythidgjdjijjkoaa", sum := "71b475439d7b842b58d26be35966c11b1a555004cb1de18e11327501a029106f", func := "loop.example/g01133/laws.FnExactStateAfter", spec := "fnExactStateAfter", unfollowed := true, recurses := true, plainKeys := false, apart := false, narrowed := true }
def FnExactStateAfterUptoSaid : Prop := fnExactStateAfterUptoRow.holds Try.pinned (OpenSpec.upto fnExactStateAfterSpec)

/-- 'laws.FnExactPartGrammar', WHERE WHAT IT READS IS OF BULK AT MOST 1048576: true; the input reads as it did. -/
def fnExactPartGrammarUptoRow : OpenClaim := { program := "ythidgjdjijjkoaa", sum := "71b475439d7b842b58d26be35966c11b1a555004cb1de18e11327501a029106f", func := "loop.example/g01133/laws.FnExactPartGrammar", spec := "fnExactPartGrammar", unfollowed := true, recurses := true, plainKeys := false, apart := false, narrowed := true }
def FnExactPartGrammarUptoSaid : Prop := fnExactPartGrammarUptoRow.holds Try.pinned (OpenSpec.upto fnExactPartGrammarSpec)

/-- 'laws.FnExactPlaceAfter', WHERE WHAT IT READS IS OF BULK AT MOST 1048576: true; the input reads as it did. -/
def fnExactPlaceAfterUptoRow : OpenClaim := { program := "ythidgjdjijjkoaa", sum := "71b475439d7b842b58d26be35966c11b1a555004cb1de18e11327501a029106f", func := "loop.example/g01133/laws.FnExactPlaceAfter", spec := "fnExactPlaceAfter", plainKeys := false, apart := false, narrowed := true }
def FnExactPlaceAfterUptoSaid : Prop := fnExactPlaceAfterUptoRow.holds Try.pinned (OpenSpec.upto fnExactPlaceAfterSpec)

end Rows
end Go.Proofs.Ythidgjdjijjkoaa
