/-
  No cell of these rows narrows 'for every input' (looked for: loops, veiled, ifaces, maps, wideKeys, modest, calm, conditions, laid).
  DERIVED. THE GIVEN ROWS OF THIS SEAT. 4 by the template 'for every input the law returns true; each argument reads behind the call as it read before'; 0 by the template 'total and deterministic' (their statements: YtagpjommhoedlaaTotals.lean).
  GIVEN WITH THE SEED: the statements are not yours to turn. If you find one false, say at which input.
  Laid BY PROGRAM, IN A SANDBOX (cutbox-rows.mjs): the forced cells as the released guide's own fill.sh prints them over the translation 27577a08e25f1edb… (all of the seat's roots in one cut). By AI agents, Wed Nov 11 2026. No macro, syntax, notation, axiom, sorry.
-/
import Derived.Test.YtagpjommhoedlaaChecked
import GoSem.Claim
import GoSem.ClaimJoined
import GoSem.ClaimMapViews
import Derived.JoinedTies
import Derived.KernelRfl
namespace Go.Proofs.Ytagpjommhoedlaa
/- THE CELL 'sum', in the pinned program and in every row, IS THE sha256 OF THE DUMP (.gsa) THAT YtagpjommhoedlaaProg.lean LOADS. Nothing in Lean hashes anything: it is a label: what it is worth is what the hold of that sum in a sandbox is worth. -/
noncomputable def Try.pinned : Pinned := { name := "ytagpjommhoedlaa", sum := "27577a08e25f1edbc45c6c3beec3f3b3eb859d03ef64b3edd1d73de90650787e", checked := Try.checked }
namespace Rows
def none {H : Type} : Left H := { results := [], args := [] }

/-- 'laws.FnPlaced': WHATEVER THE INPUT: true; the input reads as it did. -/
def fnPlacedSpec : ChangeSpec := { name := "fnPlaced", fn := fun _ => fun
  | [d1, d2] => { results := [.lit (.bool true)], args := [d1, d2] }
  | _ => none }
def fnPlacedRow : OpenClaim := { program := "ytagpjommhoedlaa", sum := "27577a08e25f1edbc45c6c3beec3f3b3eb859d03ef64b3edd1d73de90650787e", func := "loop.example/g01133/laws.FnPlaced", spec := "fnPlaced", apart := false }
def FnPlacedSaid : Prop := fnPlacedRow.holds Try.pinned (OpenSpec.ofChange fnPlacedSpec)

/-- ITS FALSE NEIGHBOUR: 'it returns false'. Refute it at one input. -/
def fnPlacedWrong : ChangeSpec := { name := "fnPlaced", fn := fun _ => fun
  | [d1, d2] => { results := [.lit (.bool false)], args := [d1, d2] }
  | _ => none }
def FnPlacedWrongFalsely : Prop := fnPlacedRow.holds Try.pinned (OpenSpec.ofChange fnPlacedWrong)

/-- 'laws.FnExactEmbedLast': WHATEVER THE INPUT: true; the input reads as it did. -/
def fnExactEmbedLastSpec : ChangeSpec := { name := "fnExactEmbedLast", fn := fun _ => fun
  | [d1, d2] => { results := [.lit (.bool true)], args := [d1, d2] }
  | _ => none }
def fnExactEmbedLastRow : OpenClaim := { program := "ytagpjommhoedlaa", sum := "27577a08e25f1edbc45c6c3beec3f3b3eb859d03ef64b3edd1d73de90650787e", func := "loop.example/g01133/laws.FnExactEmbedLast", spec := "fnExactEmbedLast", unfollowed := true, recurses := true, apart := false }
def FnExactEmbedLastSaid : Prop := fnExactEmbedLastRow.holds Try.pinned (OpenSpec.ofChange fnExactEmbedLastSpec)

/-- ITS FALSE NEIGHBOUR: 'it returns false'. Refute it at one input. -/
def fnExactEmbedLastWrong : ChangeSpec := { name := "fnExactEmbedLast", fn := fun _ => fun
  | [d1, d2] => { results := [.lit (.bool false)], args := [d1, d2] }
  | _ => none }
def FnExactEmbedLastWrongFalsely : Prop := fnExactEmbedLastRow.holds Try.pinned (OpenSpec.ofChange fnExactEmbedLastWrong)

/-- 'laws.FnLongRuns': WHATEVER THE INPUT: true; the input reads as it did. -/
def fnLongRunsSpec : ChangeSpec := { name := "fnLongRuns", fn := fun _ => fun
  | [d1, d2] => { results := [.lit (.bool true)], args := [d1, d2] }
  | _ => none }
def fnLongRunsRow : OpenClaim := { program := "ytagpjommhoedlaa", sum := "27577a08e25f1edbc45c6c3beec3f3b3eb859d03ef64b3edd1d73de90650787e", func := "loop.example/g01133/laws.FnLongRuns", spec := "fnLongRuns", unfollowed := true, recurses := true, apart := false }
def FnLongRunsSaid : Prop := fnLongRunsRow.holds Try.pinned (OpenSpec.ofChange fnLongRunsSpec)

/-- ITS FALSE NEIGHBOUR: 'it returns false'. Refute it at one input. -/
def fnLongRunsWrong : ChangeSpec := { name := "fnLongRuns", fn := fun _ => fun
  | [d1, d2] => { results := [.lit (.bool false)], args := [d1, d2] }
  | _ => none }
def FnLongRunsWrongFalsely : Prop := fnLongRunsRow.holds Try.pinned (OpenSpec.ofChange fnLongRunsWrong)

/-- 'laws.FnAutoRuns': WHATEVER THE INPUT: true; the input reads as it did. -/
def fnAutoRunsSpec : ChangeSpec := { name := "fnAutoRuns", fn := fun _ => fun
  | [d1, d2] => { results := [.lit (.bool true)], args := [d1, d2] }
  | _ => none }
def fnAutoRunsRow : OpenClaim := { program := "ytagpjommhoedlaa", sum := "27577a08e25f1edbc45c6c3beec3f3b3eb859d03ef64b3edd1d73de90650787e", func := "loop.example/g01133/laws.FnAutoRuns", spec := "fnAutoRuns", unfollowed := true, recurses := true, apart := false }
def FnAutoRunsSaid : Prop := fnAutoRunsRow.holds Try.pinned (OpenSpec.ofChange fnAutoRunsSpec)

/-- ITS FALSE NEIGHBOUR: 'it returns false'. Refute it at one input. -/
def fnAutoRunsWrong : ChangeSpec := { name := "fnAutoRuns", fn := fun _ => fun
  | [d1, d2] => { results := [.lit (.bool false)], args := [d1, d2] }
  | _ => none }
def FnAutoRunsWrongFalsely : Prop := fnAutoRunsRow.holds Try.pinned (OpenSpec.ofChange fnAutoRunsWrong)

/- THE SECOND FORM. 'bulk': how many values and letters a reading holds, each counted each time it is reached (what is shared counts as often as it is met; a slice's spare places count too). A statement '..UptoSaid' is the law's where the arguments, and the package variables that the reading takes, are together of bulk at most 1048576: NARROWER than '..Said'. Prove '..Said' where nothing that the law and all that it calls make is longer than what came in: it says more and counts as full. Else prove '..UptoSaid'. A law counts once. -/
mutual
def uptoBulk {H : Type} : DataW H → Nat
  | .lit (.string bytes) => bytes.length + 1
  | .lit _ => 1
  | .nil => 1
  | .ptr d => uptoBulk d + 1
  | .slice elems spare => uptoBulkAll elems + uptoBulkAll spare + 1
  | .agg parts => uptoBulkAll parts + 1
  | .iface _ d => uptoBulk d + 1
  | .map entries => uptoBulkEntries entries + 1
  | .held _ => 1
def uptoBulkAll {H : Type} : List (DataW H) → Nat
  | [] => 0
  | d :: r => uptoBulk d + uptoBulkAll r
def uptoBulkEntries {H : Type} : List (Lit × DataW H) → Nat
  | [] => 0
  | x :: r => uptoBulkEntry x + uptoBulkEntries r
def uptoBulkEntry {H : Type} : Lit × DataW H → Nat
  | (.string bytes, d) => bytes.length + uptoBulk d + 1
  | (_, d) => uptoBulk d + 1
 end
def uptoSmall : (H : Type) → List (DataW H) → Bool := fun _ ds => decide (uptoBulkAll ds ≤ 1048576)
def OpenSpec.upto (s : _root_.Go.ChangeSpec) : _root_.Go.OpenSpec := { _root_.Go.OpenSpec.ofChange s with cond := some uptoSmall }

/-- 'laws.FnPlaced', WHERE WHAT IT READS IS OF BULK AT MOST 1048576: true; the input reads as it did. -/
def fnPlacedUptoRow : OpenClaim := { program := "ytagpjommhoedlaa", sum := "27577a08e25f1edbc45c6c3beec3f3b3eb859d03ef64b3edd1d73de90650787e", func := "loop.example/g01133/laws.FnPlaced", spec := "fnPlaced", apart := false, narrowed := true }
def FnPlacedUptoSaid : Prop := fnPlacedUptoRow.holds Try.pinned (OpenSpec.upto fnPlacedSpec)

/-- 'laws.FnExactEmbedLast', WHERE WHAT IT READS IS OF BULK AT MOST 1048576: true; the input reads as it did. -/
def fnExactEmbedLastUptoRow : OpenClaim := { program := "ytagpjommhoedlaa", sum := "27577a08e25f1edbc45c6c3beec3f3b3eb859d03ef64b3edd1d73de90650787e", func := "loop.example/g01133/laws.FnExactEmbedLast", spec := "fnExactEmbedLast", unfollowed := true, recurses := true, apart := false, narrowed := true }
def FnExactEmbedLastUptoSaid : Prop := fnExactEmbedLastUptoRow.holds Try.pinned (OpenSpec.upto fnExactEmbedLastSpec)

/-- 'laws.FnLongRuns', WHERE WHAT IT READS IS OF BULK AT MOST 1048576: true; the input reads as it did. -/
def fnLongRunsUptoRow : OpenClaim := { program := "ytagpjommhoedlaa", sum := "27577a08e25f1edbc45c6c3beec3f3b3eb859d03ef64b3edd1d73de90650787e", func := "loop.example/g01133/laws.FnLongRuns", spec := "fnLongRuns", unfollowed := true, recurses := true, apart := false, narrowed := true }
def FnLongRunsUptoSaid : Prop := fnLongRunsUptoRow.holds Try.pinned (OpenSpec.upto fnLongRunsSpec)

/-- 'laws.FnAutoRuns', WHERE WHAT IT READS IS OF BULK AT MOST 1048576: true; the input reads as it did. -/
def fnAutoRunsUptoRow : OpenClaim := { program := "ytagpjommhoedlaa", sum := "27577a08e25f1edbc45c6c3beec3f3b3eb859d03ef64b3edd1d73de90650787e", func := "loop.example/g01133/laws.FnAutoRuns", spec := "fnAutoRuns", unfollowed := true, recurses := true, apart := false, narrowed := true }
def FnAutoRunsUptoSaid : Prop := fnAutoRunsUptoRow.holds Try.pinned (OpenSpec.upto fnAutoRunsSpec)

end Rows
end Go.Proofs.Ytagpjommhoedlaa
