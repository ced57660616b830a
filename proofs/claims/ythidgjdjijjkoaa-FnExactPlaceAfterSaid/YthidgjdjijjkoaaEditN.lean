import Derived.Test.YthidgjdjijjkoaaEdit
namespace Go.Proofs.Ythidgjdjijjkoaa
open Go.RowKit

theorem editLen_nonneg {e : GEdit} {n : Int} (h : editOk e = true) (hf : editFits e n = true) (hn : 0 ≤ n) : 0 ≤ editLen e n := by
  obtain ⟨g1, g2, g3, g4, g5, g6, g7⟩ := editOk_get h
  have hb := gramLen_bounds e.part
  unfold editLen
  rcases kind7 g1 with h | h | h | h | h | h | h
  · simp [h]; omega
  · simp [h]; simp [editFits, h] at hf; have := g5 (by omega); omega
  · simp [h]; have := g5 (by omega); omega
  · simp [h]; omega
  · simp [h]; omega
  · simp [h]; simp [editFits, h] at hf; have := g5 (by omega); have := Int.mul_nonneg (show 0 ≤ e.j - e.i by omega) g4.1; omega
  · simp [h]; omega
end Go.Proofs.Ythidgjdjijjkoaa
