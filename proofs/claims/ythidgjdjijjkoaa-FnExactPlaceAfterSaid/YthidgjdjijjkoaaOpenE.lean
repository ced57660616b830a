import Derived.Test.YthidgjdjijjkoaaOpenA
import Derived.Test.YthidgjdjijjkoaaEdit
namespace Go.Proofs.Ythidgjdjijjkoaa
open Go.ChangeShapes Go.WideShapes Go.ChangeAt Go.RowKit Go.Joins Go.Deep
open Go.ChangeMaps (open_string)
section
variable {H : Type} {enc : TypeId × Value → H} {P : Program} {w : World} {base : Nat} {spare : Nat → Bool} {held : Bool}
theorem open_struct6 {t : TypeId} {f0 f1 f2 f3 f4 f5 : Field} {v : Value} {d : DataW H} {p : List MemPlace} {r : Reach} {b0 : Nat} (hs : P.underlying t = some (.struct #[f0, f1, f2, f3, f4, f5])) (hone : oneCellFields P #[f0, f1, f2, f3, f4, f5] = true) (hC : P.cellsOf t = 6)
    (hv : Value.okWide P w r b0 t v) (h : DataW.Trod enc P w base spare held t v d p) : ∃ v0 v1 v2 v3 v4 v5 n x0 x1 x2 x3 x4 x5, v = .agg #[v0, v1, v2, v3, v4, v5] ∧ DataW.trod enc P w base spare held n f0.type [v0] = some x0 ∧ DataW.trod enc P w base spare held n f1.type [v1] = some x1 ∧
      DataW.trod enc P w base spare held n f2.type [v2] = some x2 ∧ DataW.trod enc P w base spare held n f3.type [v3] = some x3 ∧ DataW.trod enc P w base spare held n f4.type [v4] = some x4 ∧ DataW.trod enc P w base spare held n f5.type [v5] = some x5 := by
  obtain ⟨cs, rfl, hsz⟩ := okWide_struct hs hv
  obtain ⟨l⟩ := cs
  match l, hsz.trans hC with
  | [c0, c1, c2, c3, c4, c5], _ =>
    obtain ⟨fuel, hf⟩ := h
    obtain ⟨xs, n, _, _, _, hlen, hg⟩ := DataW.trod_struct hs hf
    obtain ⟨o0, k0⟩ := hone_of hone 0 f0 rfl
    obtain ⟨o1, k1⟩ := hone_of hone 1 f1 rfl
    obtain ⟨o2, k2⟩ := hone_of hone 2 f2 rfl
    obtain ⟨o3, k3⟩ := hone_of hone 3 f3 rfl
    obtain ⟨o4, k4⟩ := hone_of hone 4 f4 rfl
    obtain ⟨o5, k5⟩ := hone_of hone 5 f5 rfl
    match xs, hlen with
    | [y0, y1, y2, y3, y4, y5], _ => exact ⟨c0, c1, c2, c3, c4, c5, n, y0, y1, y2, y3, y4, y5, rfl, by simpa [Value.cells, o0, k0] using hg 0 f0 rfl, by simpa [Value.cells, o1, k1] using hg 1 f1 rfl, by simpa [Value.cells, o2, k2] using hg 2 f2 rfl, by simpa [Value.cells, o3, k3] using hg 3 f3 rfl, by simpa [Value.cells, o4, k4] using hg 4 f4 rfl, by simpa [Value.cells, o5, k5] using hg 5 f5 rfl⟩
end
set_option maxRecDepth 100000 in
theorem open_edit {H : Type} {enc : TypeId × Value → H} {w : World} {base : Nat} {spare : Nat → Bool} {held : Bool} {r : Reach} {b0 : Nat} {v : Value} {d : DataW H} {p : List MemPlace}
    (hv : Value.okWide Try.prog w r b0 75 v) (h : DataW.Trod enc Try.prog w base spare held 75 v d p) : ∃ e, EditV w w.heap.size v e ∧ SmallL e.part ∧ e.map.size ≤ maxLen := by
  obtain ⟨v0, v1, v2, v3, v4, v5, n, x0, x1, x2, x3, x4, x5, rfl, h0, h1, h2, h3, h4, h5⟩ := open_struct6 Try.underlying75 (by kernel_rfl) (by kernel_rfl) hv h
  obtain ⟨k, e0, _, _⟩ := DataW.trod_int Try.underlying2 h0
  obtain ⟨i, e1, _, _⟩ := DataW.trod_int Try.underlying2 h1
  obtain ⟨j, e2, _, _⟩ := DataW.trod_int Try.underlying2 h2
  obtain ⟨kk, e3, _, _⟩ := DataW.trod_int Try.underlying2 h3
  obtain ⟨xs, ⟨v4', e4, hsl⟩, hsm⟩ := opensGram enc w base spare held _ _ _ h4
  obtain ⟨s, e5, _, hs⟩ := DataW.trod_string Try.underlying9 h5
  simp at e0 e1 e2 e3 e4 e5
  subst e0 e1 e2 e3 e4 e5
  exact ⟨⟨k, i, j, kk, xs, s⟩, ⟨_, rfl, hsl⟩, SmallL_of hsm, hs⟩
end Go.Proofs.Ythidgjdjijjkoaa
