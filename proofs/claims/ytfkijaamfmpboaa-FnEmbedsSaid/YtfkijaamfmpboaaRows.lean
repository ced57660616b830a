/-
  No cell of these rows narrows 'for every input' (looked for: loops, veiled, ifaces, maps, wideKeys, modest, calm, conditions, laid).
  DERIVED. THE GIVEN ROWS OF THIS SEAT. 3 by the template 'for every input the law returns true; each argument reads behind the call as it read before'; 0 by the template 'total and deterministic' (their statements: YtfkijaamfmpboaaTotals.lean).
  GIVEN WITH THE SEED: the statements are not yours to turn. If you find one false, say at which input.
  Laid BY PROGRAM, IN A SANDBOX (cutbox-rows.mjs): the forced cells as the released guide's own fill.sh prints them over the translation f088a36b9baadf47… (all of the seat's roots in one cut). By AI agents, Wed Nov 11 2026. No macro, syntax, notation, axiom, sorry.
-/
import Derived.Test.YtfkijaamfmpboaaChecked
import GoSem.Claim
import GoSem.ClaimJoined
import GoSem.ClaimMapViews
import Derived.JoinedTies
import Derived.KernelRfl
namespace Go.Proofs.Ytfkijaamfmpboaa
/- THE CELL 'sum', in the pinned program and in every row, IS THE sha256 OF THE DUMP (.gsa) THAT YtfkijaamfmpboaaProg.lean LOADS. Nothing in Lean hashes anything: it is a label: what it is worth is what the hold of that sum in a sandbox is worth. -/
noncomputable def Try.pinned : Pinned := { name := "ytfkijaamfmpboaa", sum := "f088a36b9baadf478173b2f5ea0c8e7e226fc160d9034467e568014469d4e380", checked := Try.checked }
namespace Rows
def none {H : Type} : Left H := { results := [], args := [] }

/-- 'laws.FnExactNextPattern': WHATEVER THE INPUT: true; the input reads as it did. -/
def fnExactNextPatternSpec : ChangeSpec := { name := "fnExactNextPattern", fn := fun _ => fun
  | [d1, d2, d3] => { results := [.lit (.bool true)], args := [d1, d2, d3] }
  | _ => none }
def fnExactNextPatternRow : OpenClaim := { program := "ytfkijaamfmpboaa", sum := "f088a36b9baadf478173b2f5ea0c8e7e226fc160d9034467e568014469d4e380", func := "loop.example/g01133/laws.FnExactNextPattern", spec := "fnExactNextPattern", unfollowed := true, recurses := true, apart := false }
def FnExactNextPatternSaid : Prop := fnExactNextPatternRow.holds Try.pinned (OpenSpec.ofChange fnExactNextPatternSpec)

/-- ITS FALSE NEIGHBOUR: 'it returns false'. Refute it at one input. -/
def fnExactNextPatternWrong : ChangeSpec := { name := "fnExactNextPattern", fn := fun _ => fun
  | [d1, d2, d3] => { results := [.lit (.bool false)], args := [d1, d2, d3] }
  | _ => none }
def FnExactNextPatternWrongFalsely : Prop := fnExactNextPatternRow.holds Try.pinned (OpenSpec.ofChange fnExactNextPatternWrong)

/-- 'laws.FnExactEmbedLast': WHATEVER THE INPUT: true; the input reads as it did. -/
def fnExactEmbedLastSpec : ChangeSpec := { name := "fnExactEmbedLast", fn := fun _ => fun
  | [d1, d2] => { results := [.lit (.bool true)], args := [d1, d2] }
  | _ => none }
def fnExactEmbedLastRow : OpenClaim := { program := "ytfkijaamfmpboaa", sum := "f088a36b9baadf478173b2f5ea0c8e7e226fc160d9034467e568014469d4e380", func := "loop.example/g01133/laws.FnExactEmbedLast", spec := "fnExactEmbedLast", unfollowed := true, recurses := true, apart := false }
def FnExactEmbedLastSaid : Prop := fnExactEmbedLastRow.holds Try.pinned (OpenSpec.ofChange fnExactEmbedLastSpec)

/-- ITS FALSE NEIGHBOUR: 'it returns false'. Refute it at one input. -/
def fnExactEmbedLastWrong : ChangeSpec := { name := "fnExactEmbedLast", fn := fun _ => fun
  | [d1, d2] => { results := [.lit (.bool false)], args := [d1, d2] }
  | _ => none }
def FnExactEmbedLastWrongFalsely : Prop := fnExactEmbedLastRow.holds Try.pinned (OpenSpec.ofChange fnExactEmbedLastWrong)

/-- 'laws.FnEmbeds': WHATEVER THE INPUT: true; the input reads as it did. -/
def fnEmbedsSpec : ChangeSpec := { name := "fnEmbeds", fn := fun _ => fun
  | [d1, d2] => { results := [.lit (.bool true)], args := [d1, d2] }
  | _ => none }
def fnEmbedsRow : OpenClaim := { program := "ytfkijaamfmpboaa", sum := "f088a36b9baadf478173b2f5ea0c8e7e226fc160d9034467e568014469d4e380", func := "loop.example/g01133/laws.FnEmbeds", spec := "fnEmbeds", inPlace := ["internal/abi.NoEscape"], unfollowed := true, recurses := true, apart := false }
def FnEmbedsSaid : Prop := fnEmbedsRow.holds Try.pinned (OpenSpec.ofChange fnEmbedsSpec)

/-- ITS FALSE NEIGHBOUR: 'it returns false'. Refute it at one input. -/
def fnEmbedsWrong : ChangeSpec := { name := "fnEmbeds", fn := fun _ => fun
  | [d1, d2] => { results := [.lit (.bool false)], args := [d1, d2] }
  | _ => none }
def FnEmbedsWrongFalsely : Prop := fnEmbedsRow.holds Try.pinned (OpenSpec.ofChange fnEmbedsWrong)

/- THE SECOND FORM. 'bulk': how many values and letters a reading holds, each counted each time it is reached (what is shared counts as often as it is met; a slice's spare places count too). A statement '..UptoSaid' is the law's where the arguments, and the package variables that the reading takes, are together of bulk at most 1048576: NARROWER than '..Said'. Prove '..Said' where nothing that the law and all that it calls make is longer than what came in: it says more and counts as full. Else prove '..UptoSaid'. A law counts once. -/
mutual
def uptoBulk {H : Type} : DataW H → Nat
  | .lit (.string bytes) => bytes.length + 1
  | .lit _ => 1
  | .nil => 1
  | .ptr d => uptoBulk d + 1
  | .slice elems spare => uptoBulkAll elems + uptoBulkAll spare + 1
  | .agg parts => uptoBulkAll parts + 1
  | .iface _ d => uptoBulk d + 1
  | .map entries => uptoBulkEntries entries + 1
  | .held _ => 1
def uptoBulkAll {H : Type} : List (DataW H) → Nat
  | [] => 0
  | d :: r => uptoBulk d + uptoBulkAll r
def uptoBulkEntries {H : Type} : List (Lit × DataW H) → Nat
  | [] => 0
  | x :: r => uptoBulkEntry x + uptoBulkEntries r
def uptoBulkEntry {H : Type} : Lit × DataW H → Nat
  | (.string bytes, d) => bytes.length + uptoBulk d + 1
  | (_, d) => uptoBulk d + 1
 end
def uptoSmall : (H : Type) → List (DataW H) → Bool := fun _ ds => decide (uptoBulkAll ds ≤ 1048576)
def OpenSpec.upto (s : _root_.Go.ChangeSpec) : _root_.Go.OpenSpec := { _root_.Go.OpenSpec.ofChange s with cond := some uptoSmall }

/-- 'laws.FnExactNextPattern', WHERE WHAT IT READS IS OF BULK AT MOST 1048576: true; the input reads as it did. -/
def fnExactNextPatternUptoRow : OpenClaim := { program := "ytfkijaamfmpboaa", sum := "f088a36b9baadf478173b2f5ea0c8e7e226fc160d9034467e568014469d4e380", func := "loop.example/g01133/laws.FnExactNextPattern", spec := "fnExactNextPattern", unfollowed := true, recurses := true, apart := false, narrowed := true }
def FnExactNextPatternUptoSaid : Prop := fnExactNextPatternUptoRow.holds Try.pinned (OpenSpec.upto fnExactNextPatternSpec)

/-- 'laws.FnExactEmbedLast', WHERE WHAT IT READS IS OF BULK AT MOST 1048576: true; the input reads as it did. -/
def fnExactEmbedLastUptoRow : OpenClaim := { program := "ytfkijaamfmpboaa", sum := "f088a36b9baadf478173b2f5ea0c8e7e226fc160d9034467e568014469d4e380", func := "loop.example/g01133/laws.FnExactEmbedLast", spec := "fnExactEmbedLast", unfollowed := true, recurses := true, apart := false, narrowed := true }
def FnExactEmbedLastUptoSaid : Prop := fnExactEmbedLastUptoRow.holds Try.pinned (OpenSpec.upto fnExactEmbedLastSpec)

/-- 'laws.FnEmbeds', WHERE WHAT IT READS IS OF BULK AT MOST 1048576: true; the input reads as it did. -/
def fnEmbedsUptoRow : OpenClaim := { program := "ytfkijaamfmpboaa", sum := "f088a36b9baadf478173b2f5ea0c8e7e226fc160d9034467e568014469d4e380", func := "loop.example/g01133/laws.FnEmbeds", spec := "fnEmbeds", inPlace := ["internal/abi.NoEscape"], unfollowed := true, recurses := true, apart := false, narrowed := true }
def FnEmbedsUptoSaid : Prop := fnEmbedsUptoRow.holds Try.pinned (OpenSpec.upto fnEmbedsSpec)

end Rows
end Go.Proofs.Ytfkijaamfmpboaa
