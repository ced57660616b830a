/-
  No cell of these rows narrows 'for every input' (looked for: loops, veiled, ifaces, maps, wideKeys, modest, calm, conditions, laid).
  DERIVED. THE GIVEN ROWS OF THIS SEAT. 5 by the template 'for every input the law returns true; each argument reads behind the call as it read before'; 0 by the template 'total and deterministic' (their statements: YtfapnipmgmpgaaaTotals.lean).
  GIVEN WITH THE SEED: the statements are not yours to turn. If you find one false, say at which input.
  Laid BY PROGRAM, IN A SANDBOX (cutbox-rows.mjs): the forced cells as the released guide's own fill.sh prints them over the translation 62edd638fce823e2… (all of the seat's roots in one cut). By AI agents, Wed Nov 11 2026. No macro, syntax, notation, axiom, sorry.
-/
import Derived.Test.YtfapnipmgmpgaaaChecked
import GoSem.Claim
import GoSem.ClaimJoined
import GoSem.ClaimMapViews
import Derived.JoinedTies
import Derived.KernelRfl
namespace Go.Proofs.Ytfapnipmgmpgaaa
/- THE CELL 'sum', in the pinned program and in every row, IS THE sha256 OF THE DUMP (.gsa) THAT YtfapnipmgmpgaaaProg.lean LOADS. Nothing in Lean hashes anything: it is a label: what it is worth is what the hold of that sum in a sandbox is worth. -/
noncomputable def Try.pinned : Pinned := { name := "ytfapnipmgmpgaaa", sum := "62edd638fce823e223dabb09531b957205c9007d6ad7aed2597481cbb446411d", checked := Try.checked }
namespace Rows
def none {H : Type} : Left H := { results := [], args := [] }

/-- 'laws.FnExactEditPlain': WHATEVER THE INPUT: true; the input reads as it did. -/
def fnExactEditPlainSpec : ChangeSpec := { name := "fnExactEditPlain", fn := fun _ => fun
  | [d1, d2] => { results := [.lit (.bool true)], args := [d1, d2] }
  | _ => none }
def fnExactEditPlainRow : OpenClaim := { program := "ytfapnipmgmpgaaa", sum := "62edd638fce823e223dabb09531b957205c9007d6ad7aed2597481cbb446411d", func := "loop.example/g01133/laws.FnExactEditPlain", spec := "fnExactEditPlain", inPlace := ["internal/abi.NoEscape", "internal/bytealg.MakeNoZero"], unfollowed := true, recurses := true, plainKeys := false, apart := false }
def FnExactEditPlainSaid : Prop := fnExactEditPlainRow.holds Try.pinned (OpenSpec.ofChange fnExactEditPlainSpec)

/-- ITS FALSE NEIGHBOUR: 'it returns false'. Refute it at one input. -/
def fnExactEditPlainWrong : ChangeSpec := { name := "fnExactEditPlain", fn := fun _ => fun
  | [d1, d2] => { results := [.lit (.bool false)], args := [d1, d2] }
  | _ => none }
def FnExactEditPlainWrongFalsely : Prop := fnExactEditPlainRow.holds Try.pinned (OpenSpec.ofChange fnExactEditPlainWrong)

/-- 'laws.FnExactPassEdit': WHATEVER THE INPUT: true; the input reads as it did. -/
def fnExactPassEditSpec : ChangeSpec := { name := "fnExactPassEdit", fn := fun _ => fun
  | [d1, d2, d3] => { results := [.lit (.bool true)], args := [d1, d2, d3] }
  | _ => none }
def fnExactPassEditRow : OpenClaim := { program := "ytfapnipmgmpgaaa", sum := "62edd638fce823e223dabb09531b957205c9007d6ad7aed2597481cbb446411d", func := "loop.example/g01133/laws.FnExactPassEdit", spec := "fnExactPassEdit", unfollowed := true, recurses := true, plainKeys := false, apart := false }
def FnExactPassEditSaid : Prop := fnExactPassEditRow.holds Try.pinned (OpenSpec.ofChange fnExactPassEditSpec)

/-- ITS FALSE NEIGHBOUR: 'it returns false'. Refute it at one input. -/
def fnExactPassEditWrong : ChangeSpec := { name := "fnExactPassEdit", fn := fun _ => fun
  | [d1, d2, d3] => { results := [.lit (.bool false)], args := [d1, d2, d3] }
  | _ => none }
def FnExactPassEditWrongFalsely : Prop := fnExactPassEditRow.holds Try.pinned (OpenSpec.ofChange fnExactPassEditWrong)

/-- 'laws.FnExactFactorsGrammar': WHATEVER THE INPUT: true; the input reads as it did. -/
def fnExactFactorsGrammarSpec : ChangeSpec := { name := "fnExactFactorsGrammar", fn := fun _ => fun
  | [d] => { results := [.lit (.bool true)], args := [d] }
  | _ => none }
def fnExactFactorsGrammarRow : OpenClaim := { program := "ytfapnipmgmpgaaa", sum := "62edd638fce823e223dabb09531b957205c9007d6ad7aed2597481cbb446411d", func := "loop.example/g01133/laws.FnExactFactorsGrammar", spec := "fnExactFactorsGrammar", inPlace := ["internal/bytealg.IndexByteString"], unfollowed := true, recurses := true, plainKeys := false, apart := false }
def FnExactFactorsGrammarSaid : Prop := fnExactFactorsGrammarRow.holds Try.pinned (OpenSpec.ofChange fnExactFactorsGrammarSpec)

/-- ITS FALSE NEIGHBOUR: 'it returns false'. Refute it at one input. -/
def fnExactFactorsGrammarWrong : ChangeSpec := { name := "fnExactFactorsGrammar", fn := fun _ => fun
  | [d] => { results := [.lit (.bool false)], args := [d] }
  | _ => none }
def FnExactFactorsGrammarWrongFalsely : Prop := fnExactFactorsGrammarRow.holds Try.pinned (OpenSpec.ofChange fnExactFactorsGrammarWrong)

/-- 'laws.FnPlaced': WHATEVER THE INPUT: true; the input reads as it did. -/
def fnPlacedSpec : ChangeSpec := { name := "fnPlaced", fn := fun _ => fun
  | [d1, d2] => { results := [.lit (.bool true)], args := [d1, d2] }
  | _ => none }
def fnPlacedRow : OpenClaim := { program := "ytfapnipmgmpgaaa", sum := "62edd638fce823e223dabb09531b957205c9007d6ad7aed2597481cbb446411d", func := "loop.example/g01133/laws.FnPlaced", spec := "fnPlaced", plainKeys := false, apart := false }
def FnPlacedSaid : Prop := fnPlacedRow.holds Try.pinned (OpenSpec.ofChange fnPlacedSpec)

/-- ITS FALSE NEIGHBOUR: 'it returns false'. Refute it at one input. -/
def fnPlacedWrong : ChangeSpec := { name := "fnPlaced", fn := fun _ => fun
  | [d1, d2] => { results := [.lit (.bool false)], args := [d1, d2] }
  | _ => none }
def FnPlacedWrongFalsely : Prop := fnPlacedRow.holds Try.pinned (OpenSpec.ofChange fnPlacedWrong)

/-- 'laws.FnExactEmbedLast': WHATEVER THE INPUT: true; the input reads as it did. -/
def fnExactEmbedLastSpec : ChangeSpec := { name := "fnExactEmbedLast", fn := fun _ => fun
  | [d1, d2] => { results := [.lit (.bool true)], args := [d1, d2] }
  | _ => none }
def fnExactEmbedLastRow : OpenClaim := { program := "ytfapnipmgmpgaaa", sum := "62edd638fce823e223dabb09531b957205c9007d6ad7aed2597481cbb446411d", func := "loop.example/g01133/laws.FnExactEmbedLast", spec := "fnExactEmbedLast", unfollowed := true, recurses := true, plainKeys := false, apart := false }
def FnExactEmbedLastSaid : Prop := fnExactEmbedLastRow.holds Try.pinned (OpenSpec.ofChange fnExactEmbedLastSpec)

/-- ITS FALSE NEIGHBOUR: 'it returns false'. Refute it at one input. -/
def fnExactEmbedLastWrong : ChangeSpec := { name := "fnExactEmbedLast", fn := fun _ => fun
  | [d1, d2] => { results := [.lit (.bool false)], args := [d1, d2] }
  | _ => none }
def FnExactEmbedLastWrongFalsely : Prop := fnExactEmbedLastRow.holds Try.pinned (OpenSpec.ofChange fnExactEmbedLastWrong)

/- THE SECOND FORM. 'bulk': how many values and letters a reading holds, each counted each time it is reached (what is shared counts as often as it is met; a slice's spare places count too). A statement '..UptoSaid' is the law's where the arguments, and the package variables that the reading takes, are together of bulk at most 1048576: NARROWER than '..Said'. Prove '..Said' where nothing that the law and all that it calls make is longer than what came in: it says more and counts as full. Else prove '..UptoSaid'. A law counts once. -/
mutual
def uptoBulk {H : Type} : DataW H → Nat
  | .lit (.string bytes) => bytes.length + 1
  | .lit _ => 1
  | .nil => 1
  | .ptr d => uptoBulk d + 1
  | .slice elems spare => uptoBulkAll elems + uptoBulkAll spare + 1
  | .agg parts => uptoBulkAll parts + 1
  | .iface _ d => uptoBulk d + 1
  | .map entries => uptoBulkEntries entries + 1
  | .held _ => 1
def uptoBulkAll {H : Type} : List (DataW H) → Nat
  | [] => 0
  | d :: r => uptoBulk d + uptoBulkAll r
def uptoBulkEntries {H : Type} : List (Lit × DataW H) → Nat
  | [] => 0
  | x :: r => uptoBulkEntry x + uptoBulkEntries r
def uptoBulkEntry {H : Type} : Lit × DataW H → Nat
  | (.string bytes, d) => bytes.length + uptoBulk d + 1
  | (_, d) => uptoBulk d + 1
 end
def uptoSmall : (H : Type) → List (DataW H) → Bool := fun _ ds => decide (uptoBulkAll ds ≤ 1048576)
def OpenSpec.upto (s : _root_.Go.ChangeSpec) : _root_.Go.OpenSpec := { _root_.Go.OpenSpec.ofChange s with cond := some uptoSmall }

/-- 'laws.FnExactEditPlain', WHERE WHAT IT READS IS OF BULK AT MOST 1048576: true; the input reads as it did. -/
def fnExactEditPlainUptoRow : OpenClaim := { program := "ytfapnipmgmpgaaa", sum := "62edd638fce823e223dabb09531b957205c9007d6ad7aed2597481cbb446411d", func := "loop.example/g01133/laws.FnExactEditPlain", spec := "fnExactEditPlain", inPlace := ["internal/abi.NoEscape", "internal/bytealg.MakeNoZero"], unfollowed := true, recurses := true, plainKeys := false, apart := false, narrowed := true }
def FnExactEditPlainUptoSaid : Prop := fnExactEditPlainUptoRow.holds Try.pinned (OpenSpec.upto fnExactEditPlainSpec)

/-- 'laws.FnExactPassEdit', WHERE WHAT IT READS IS OF BULK AT MOST 1048576: true; the input reads as it did. -/
def fnExactPassEditUptoRow : OpenClaim := { program := "ytfapnipmgmpgaaa", sum := "62edd638fce823e223dabb09531b957205c9007d6ad7aed2597481cbb446411d", func := "loop.example/g01133/laws.FnExactPassEdit", spec := "fnExactPassEdit", unfollowed := true, recurses := true, plainKeys := false, apart := false, narrowed := true }
def FnExactPassEditUptoSaid : Prop := fnExactPassEditUptoRow.holds Try.pinned (OpenSpec.upto fnExactPassEditSpec)

/-- 'laws.FnExactFactorsGrammar', WHERE WHAT IT READS IS OF BULK AT MOST 1048576: true; the input reads as it did. -/
def fnExactFactorsGrammarUptoRow : OpenClaim := { program := "ytfapnipmgmpgaaa", sum := "62edd638fce823e223dabb09531b957205c9007d6ad7aed2597481cbb446411d", func := "loop.example/g01133/laws.FnExactFactorsGrammar", spec := "fnExactFactorsGrammar", inPlace := ["internal/bytealg.IndexByteString"], unfollowed := true, recurses := true, plainKeys := false, apart := false, narrowed := true }
def FnExactFactorsGrammarUptoSaid : Prop := fnExactFactorsGrammarUptoRow.holds Try.pinned (OpenSpec.upto fnExactFactorsGrammarSpec)

/-- 'laws.FnPlaced', WHERE WHAT IT READS IS OF BULK AT MOST 1048576: true; the input reads as it did. -/
def fnPlacedUptoRow : OpenClaim := { program := "ytfapnipmgmpgaaa", sum := "62edd638fce823e223dabb09531b957205c9007d6ad7aed2597481cbb446411d", func := "loop.example/g01133/laws.FnPlaced", spec := "fnPlaced", plainKeys := false, apart := false, narrowed := true }
def FnPlacedUptoSaid : Prop := fnPlacedUptoRow.holds Try.pinned (OpenSpec.upto fnPlacedSpec)

/-- 'laws.FnExactEmbedLast', WHERE WHAT IT READS IS OF BULK AT MOST 1048576: true; the input reads as it did. -/
def fnExactEmbedLastUptoRow : OpenClaim := { program := "ytfapnipmgmpgaaa", sum := "62edd638fce823e223dabb09531b957205c9007d6ad7aed2597481cbb446411d", func := "loop.example/g01133/laws.FnExactEmbedLast", spec := "fnExactEmbedLast", unfollowed := true, recurses := true, plainKeys := false, apart := false, narrowed := true }
def FnExactEmbedLastUptoSaid : Prop := fnExactEmbedLastUptoRow.holds Try.pinned (OpenSpec.upto fnExactEmbedLastSpec)

end Rows
end Go.Proofs.Ytfapnipmgmpgaaa
