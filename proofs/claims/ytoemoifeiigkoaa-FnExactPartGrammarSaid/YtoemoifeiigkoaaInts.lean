import Derived.Test.YtoemoifeiigkoaaEnc
import Derived.Deep.DeepMust
import Derived.LoopTactic
namespace Go.Proofs.Ytoemoifeiigkoaa
open Go.RowKit

def szN (n : Nat) (left : Int) : Int := if left - n < 0 then -1 else left - n
def szNN : List (List Int) → Int → Int
  | [], left => left
  | x :: xs, left => if szN x.length left < 0 then -1 else szNN xs (szN x.length left)
def szII (xs : List (List Int)) (left : Int) : Int := if szN xs.length left < 0 then -1 else szNN xs (szN xs.length left)
theorem szNN_at (xs : List (List Int)) (left : Int) (k : Nat) (x : List Int) (hx : xs[k]? = some x) : szNN (xs.drop k) left = if szN x.length left < 0 then -1 else szNN (xs.drop (k+1)) (szN x.length left) := by
  obtain ⟨hk, rfl⟩ := List.getElem?_eq_some_iff.1 hx
  rw [List.drop_eq_getElem_cons hk]; rfl

theorem szNN_le (xs : List (List Int)) : ∀ left : Int, 0 ≤ left → szNN xs left ≤ left := by
  induction xs with
  | nil => intro l h; simp [szNN]
  | cons x xs ih =>
    intro l h
    unfold szNN
    split
    · omega
    · have := ih (szN x.length l) (by omega)
      have h3 : szN x.length l ≤ l := by unfold szN; split <;> omega
      omega
end Go.Proofs.Ytoemoifeiigkoaa
