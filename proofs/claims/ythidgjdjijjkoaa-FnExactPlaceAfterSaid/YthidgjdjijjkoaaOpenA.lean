import Derived.Test.YthidgjdjijjkoaaAutoS
import Derived.Test.YthidgjdjijjkoaaOpenG
namespace Go.Proofs.Ythidgjdjijjkoaa
open Go.ChangeShapes Go.WideShapes Go.ChangeAt Go.RowKit Go.Joins
open Go.ChangeMaps (open_string)
theorem cellsAuto : Try.prog.cellsOf 31 = 4 := by kernel_rfl
theorem opensInts : Opens Try.prog IntE (fun _ => True) 2 := opens_int Try.underlying2
theorem opensIntS : Opens Try.prog (SliceE IntE) (fun xs => ∀ x ∈ xs, True) 28 := opens_slice opensInts Try.underlying28 (by kernel_rfl)
theorem opensIntSS : Opens Try.prog (SliceE (SliceE IntE)) (fun xs => ∀ x ∈ xs, ∀ y ∈ x, True) 29 := opens_slice opensIntS Try.underlying29 (by kernel_rfl)
set_option maxRecDepth 100000 in
theorem open_auto {H : Type} {enc : TypeId × Value → H} {w : World} {base : Nat} {spare : Nat → Bool} {held : Bool} {r : Reach} {b0 : Nat} {v : Value} {d : DataW H} {p : List MemPlace}
    (hv : Value.okWide Try.prog w r b0 31 v) (h : DataW.Trod enc Try.prog w base spare held 31 v d p) : ∃ a, AutoV w w.heap.size v a := by
  obtain ⟨c0, c1, c2, c3, y0, y1, y2, y3, m, rfl, hd, hp, hy0, hy1, hy2, hy3⟩ := open_agg4 Try.underlying31 (by kernel_rfl) cellsAuto hv h
  obtain ⟨k, e0, _, _⟩ := DataW.trod_int Try.underlying2 hy0
  obtain ⟨s, e1, _, _⟩ := DataW.trod_int Try.underlying2 hy1
  obtain ⟨xs, ⟨v2, e2, h2⟩, _⟩ := opensIntS enc w base spare held _ _ _ hy2
  obtain ⟨ys, ⟨v3, e3, h3⟩, _⟩ := opensIntSS enc w base spare held _ _ _ hy3
  simp at e0 e1 e2 e3
  subst e0 e1 e2 e3
  exact ⟨⟨k, s, xs, ys⟩, _, _, rfl, h2, h3⟩

end Go.Proofs.Ythidgjdjijjkoaa
