/-
  No cell of these rows narrows 'for every input' (looked for: loops, veiled, ifaces, maps, wideKeys, modest, calm, conditions, laid).
  DERIVED. THE GIVEN ROWS OF THIS SEAT. 5 by the template 'for every input the law returns true; each argument reads behind the call as it read before'; 0 by the template 'total and deterministic' (their statements: YtejgbfgocaggfaaTotals.lean).
  GIVEN WITH THE SEED: the statements are not yours to turn. If you find one false, say at which input.
  Laid BY PROGRAM, IN A SANDBOX (cutbox-rows.mjs): the forced cells as the released guide's own fill.sh prints them over the translation 54da3467d3618509… (all of the seat's roots in one cut). By AI agents, Wed Nov 11 2026. No macro, syntax, notation, axiom, sorry.
-/
import Derived.Test.YtejgbfgocaggfaaChecked
import GoSem.Claim
import GoSem.ClaimJoined
import GoSem.ClaimMapViews
import Derived.JoinedTies
import Derived.KernelRfl
namespace Go.Proofs.Ytejgbfgocaggfaa
/- THE CELL 'sum', in the pinned program and in every row, IS THE sha256 OF THE DUMP (.gsa) THAT YtejgbfgocaggfaaProg.lean LOADS. Nothing in Lean hashes anything: it is a label: what it is worth is what the hold of that sum in a sandbox is worth. -/
noncomputable def Try.pinned : Pinned := { name := "ytejgbfgocaggfaa", sum := "54da3467d3618509bd5b6790d626bde11f3e09ee91b2f34a0eb46d09c1e51e18", checked := Try.checked }
namespace Rows
def none {H : Type} : Left H := { results := [], args := [] }

/-- 'laws.FnExactEmbedLast': WHATEVER THE INPUT: true; the input reads as it did. -/
def fnExactEmbedLastSpec : ChangeSpec := { name := "fnExactEmbedLast", fn := fun _ => fun
  | [d1, d2] => { results := [.lit (.bool true)], args := [d1, d2] }
  | _ => none }
def fnExactEmbedLastRow : OpenClaim := { program := "ytejgbfgocaggfaa", sum := "54da3467d3618509bd5b6790d626bde11f3e09ee91b2f34a0eb46d09c1e51e18", func := "loop.example/g01133/laws.FnExactEmbedLast", spec := "fnExactEmbedLast", unfollowed := true, recurses := true, apart := false }
def FnExactEmbedLastSaid : Prop := fnExactEmbedLastRow.holds Try.pinned (OpenSpec.ofChange fnExactEmbedLastSpec)

/-- ITS FALSE NEIGHBOUR: 'it returns false'. Refute it at one input. -/
def fnExactEmbedLastWrong : ChangeSpec := { name := "fnExactEmbedLast", fn := fun _ => fun
  | [d1, d2] => { results := [.lit (.bool false)], args := [d1, d2] }
  | _ => none }
def FnExactEmbedLastWrongFalsely : Prop := fnExactEmbedLastRow.holds Try.pinned (OpenSpec.ofChange fnExactEmbedLastWrong)

/-- 'laws.FnExactNextPattern': WHATEVER THE INPUT: true; the input reads as it did. -/
def fnExactNextPatternSpec : ChangeSpec := { name := "fnExactNextPattern", fn := fun _ => fun
  | [d1, d2, d3] => { results := [.lit (.bool true)], args := [d1, d2, d3] }
  | _ => none }
def fnExactNextPatternRow : OpenClaim := { program := "ytejgbfgocaggfaa", sum := "54da3467d3618509bd5b6790d626bde11f3e09ee91b2f34a0eb46d09c1e51e18", func := "loop.example/g01133/laws.FnExactNextPattern", spec := "fnExactNextPattern", unfollowed := true, recurses := true, apart := false }
def FnExactNextPatternSaid : Prop := fnExactNextPatternRow.holds Try.pinned (OpenSpec.ofChange fnExactNextPatternSpec)

/-- ITS FALSE NEIGHBOUR: 'it returns false'. Refute it at one input. -/
def fnExactNextPatternWrong : ChangeSpec := { name := "fnExactNextPattern", fn := fun _ => fun
  | [d1, d2, d3] => { results := [.lit (.bool false)], args := [d1, d2, d3] }
  | _ => none }
def FnExactNextPatternWrongFalsely : Prop := fnExactNextPatternRow.holds Try.pinned (OpenSpec.ofChange fnExactNextPatternWrong)

/-- 'laws.FnLongRuns': WHATEVER THE INPUT: true; the input reads as it did. -/
def fnLongRunsSpec : ChangeSpec := { name := "fnLongRuns", fn := fun _ => fun
  | [d1, d2] => { results := [.lit (.bool true)], args := [d1, d2] }
  | _ => none }
def fnLongRunsRow : OpenClaim := { program := "ytejgbfgocaggfaa", sum := "54da3467d3618509bd5b6790d626bde11f3e09ee91b2f34a0eb46d09c1e51e18", func := "loop.example/g01133/laws.FnLongRuns", spec := "fnLongRuns", unfollowed := true, recurses := true, apart := false }
def FnLongRunsSaid : Prop := fnLongRunsRow.holds Try.pinned (OpenSpec.ofChange fnLongRunsSpec)

/-- ITS FALSE NEIGHBOUR: 'it returns false'. Refute it at one input. -/
def fnLongRunsWrong : ChangeSpec := { name := "fnLongRuns", fn := fun _ => fun
  | [d1, d2] => { results := [.lit (.bool false)], args := [d1, d2] }
  | _ => none }
def FnLongRunsWrongFalsely : Prop := fnLongRunsRow.holds Try.pinned (OpenSpec.ofChange fnLongRunsWrong)

/-- 'laws.FnAutoRuns': WHATEVER THE INPUT: true; the input reads as it did. -/
def fnAutoRunsSpec : ChangeSpec := { name := "fnAutoRuns", fn := fun _ => fun
  | [d1, d2] => { results := [.lit (.bool true)], args := [d1, d2] }
  | _ => none }
def fnAutoRunsRow : OpenClaim := { program := "ytejgbfgocaggfaa", sum := "54da3467d3618509bd5b6790d626bde11f3e09ee91b2f34a0eb46d09c1e51e18", func := "loop.example/g01133/laws.FnAutoRuns", spec := "fnAutoRuns", unfollowed := true, recurses := true, apart := false }
def FnAutoRunsSaid : Prop := fnAutoRunsRow.holds Try.pinned (OpenSpec.ofChange fnAutoRunsSpec)

/-- ITS FALSE NEIGHBOUR: 'it returns false'. Refute it at one input. -/
def fnAutoRunsWrong : ChangeSpec := { name := "fnAutoRuns", fn := fun _ => fun
  | [d1, d2] => { results := [.lit (.bool false)], args := [d1, d2] }
  | _ => none }
def FnAutoRunsWrongFalsely : Prop := fnAutoRunsRow.holds Try.pinned (OpenSpec.ofChange fnAutoRunsWrong)

/-- 'laws.FnEmbeds': WHATEVER THE INPUT: true; the input reads as it did. -/
def fnEmbedsSpec : ChangeSpec := { name := "fnEmbeds", fn := fun _ => fun
  | [d1, d2] => { results := [.lit (.bool true)], args := [d1, d2] }
  | _ => none }
def fnEmbedsRow : OpenClaim := { program := "ytejgbfgocaggfaa", sum := "54da3467d3618509bd5b6790d626bde11f3e09ee91b2f34a0eb46d09c1e51e18", func := "loop.example/g01133/laws.FnEmbeds", spec := "fnEmbeds", inPlace := ["internal/abi.NoEscape"], unfollowed := true, recurses := true, apart := false }
def FnEmbedsSaid : Prop := fnEmbedsRow.holds Try.pinned (OpenSpec.ofChange fnEmbedsSpec)

/-- ITS FALSE NEIGHBOUR: 'it returns false'. Refute it at one input. -/
def fnEmbedsWrong : ChangeSpec := { name := "fnEmbeds", fn := fun _ => fun
  | [d1, d2] => { results := [.lit (.bool false)], args := [d1, d2] }
  | _ => none }
def FnEmbedsWrongFalsely : Prop := fnEmbedsRow.holds Try.pinned (OpenSpec.ofChange fnEmbedsWrong)

/- THE SECOND FORM. 'bulk': how many values and letters a reading holds, each counted each time it is reached (what is shared counts as often as it is met; a slice's spare places count too). A statement '..UptoSaid' is the law's where the arguments, and the package variables that the reading takes, are together of bulk at most 1048576: NARROWER than '..Said'. Prove '..Said' where nothing that the law and all that it calls make is longer than what came in: it says more and counts as full. Else prove '..UptoSaid'. A law counts once. -/
mutual
def uptoBulk {H : Type} : DataW H → Nat
  | .lit (.string bytes) => bytes.length + 1
  | .lit _ => 1
  | .nil => 1
  | .ptr d => uptoBulk d + 1
  | .slice elems spare => uptoBulkAll elems + uptoBulkAll spare + 1
  | .agg parts => uptoBulkAll parts + 1
  | .iface _ d => uptoBulk d + 1
  | .map entries => uptoBulkEntries entries + 1
  | .held _ => 1
def uptoBulkAll {H : Type} : List (DataW H) → Nat
  | [] => 0
  | d :: r => uptoBulk d + uptoBulkAll r
def uptoBulkEntries {H : Type} : List (Lit × DataW H) → Nat
  | [] => 0
  | x :: r => uptoBulkEntry x + uptoBulkEntries r
def uptoBulkEntry {H : Type} : Lit × DataW H → Nat
  | (.string bytes, d) => bytes.length + uptoBulk d + 1
  | (_, d) => uptoBulk d + 1
 end
def uptoSmall : (H : Type) → List (DataW H) → Bool := fun _ ds => decide (uptoBulkAll ds ≤ 1048576)
def OpenSpec.upto (s : _root_.Go.ChangeSpec) : _root_.Go.OpenSpec := { _root_.Go.OpenSpec.ofChange s with cond := some uptoSmall }

/-- 'laws.FnExactEmbedLast', WHERE WHAT IT READS IS OF BULK AT MOST 1048576: true; the input reads as it did. -/
def fnExactEmbedLastUptoRow : OpenClaim := { program := "ytejgbfgocaggfaa", sum := "54da3467d3618509bd5b6790d626bde11f3e09ee91b2f34a0eb46d09c1e51e18", func := "loop.example/g01133/laws.FnExactEmbedLast", spec := "fnExactEmbedLast", unfollowed := true, recurses := true, apart := false, narrowed := true }
def FnExactEmbedLastUptoSaid : Prop := fnExactEmbedLastUptoRow.holds Try.pinned (OpenSpec.upto fnExactEmbedLastSpec)

/-- 'laws.FnExactNextPattern', WHERE WHAT IT READS IS OF BULK AT MOST 1048576: true; the input reads as it did. -/
def fnExactNextPatternUptoRow : OpenClaim := { program := "ytejgbfgocaggfaa", sum := "54da3467d3618509bd5b6790d626bde11f3e09ee91b2f34a0eb46d09c1e51e18", func := "loop.example/g01133/laws.FnExactNextPattern", spec := "fnExactNextPattern", unfollowed := true, recurses := true, apart := false, narrowed := true }
def FnExactNextPatternUptoSaid : Prop := fnExactNextPatternUptoRow.holds Try.pinned (OpenSpec.upto fnExactNextPatternSpec)

/-- 'laws.FnLongRuns', WHERE WHAT IT READS IS OF BULK AT MOST 1048576: true; the input reads as it did. -/
def fnLongRunsUptoRow : OpenClaim := { program := "ytejgbfgocaggfaa", sum := "54da3467d3618509bd5b6790d626bde11f3e09ee91b2f34a0eb46d09c1e51e18", func := "loop.example/g01133/laws.FnLongRuns", spec := "fnLongRuns", unfollowed := true, recurses := true, apart := false, narrowed := true }
def FnLongRunsUptoSaid : Prop := fnLongRunsUptoRow.holds Try.pinned (OpenSpec.upto fnLongRunsSpec)

/-- 'laws.FnAutoRuns', WHERE WHAT IT READS IS OF BULK AT MOST 1048576: true; the input reads as it did. -/
def fnAutoRunsUptoRow : OpenClaim := { program := "ytejgbfgocaggfaa", sum := "54da3467d3618509bd5b6790d626bde11f3e09ee91b2f34a0eb46d09c1e51e18", func := "loop.example/g01133/laws.FnAutoRuns", spec := "fnAutoRuns", unfollowed := true, recurses := true, apart := false, narrowed := true }
def FnAutoRunsUptoSaid : Prop := fnAutoRunsUptoRow.holds Try.pinned (OpenSpec.upto fnAutoRunsSpec)

/-- 'laws.FnEmbeds', WHERE WHAT IT READS IS OF BULK AT MOST 1048576: true; the input reads as it did. -/
def fnEmbedsUptoRow : OpenClaim := { program := "ytejgbfgocaggfaa", sum := "54da3467d3618509bd5b6790d626bde11f3e09ee91b2f34a0eb46d09c1e51e18", func := "loop.example/g01133/laws.FnEmbeds", spec := "fnEmbeds", inPlace := ["internal/abi.NoEscape"], unfollowed := true, recurses := true, apart := false, narrowed := true }
def FnEmbedsUptoSaid : Prop := fnEmbedsUptoRow.holds Try.pinned (OpenSpec.upto fnEmbedsSpec)

end Rows
end Go.Proofs.Ytejgbfgocaggfaa
