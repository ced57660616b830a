import Derived.Test.YtoemoifeiigkoaaInts2
namespace Go.Proofs.Ytoemoifeiigkoaa
open Go.RowKit

theorem Try.infoII : (Try.prog.info? 35).map (fun i => (i.zero, i.size, i.bytes)) = some (some (.slice none 0 0), 1, 24) := by kernel_rfl
theorem madeNils (n : Nat) : (madeCells (Value.slice none 0 0).cells (n * 1)).toList = List.replicate n (Value.slice none 0 0) := by
  rw [Nat.mul_one]; exact toList_madeCells_one _ n

/-- A row of k values that read as the lists xs, in blocks of S. -/
def Each {α : Type} (E : Enc α) (w : World) (S : Nat → Prop) (vs : List Value) (xs : List (List α)) : Prop := vs.length = xs.length ∧ ∀ (k : Nat) x, xs[k]? = some x → ∃ v, vs[k]? = some v ∧ SlS E w S v x
theorem Each.keep {α : Type} {E : Enc α} {w w' : World} {S : Nat → Prop} {vs : List Value} {xs : List (List α)} (h : Each E w S vs xs) (hk : Keep S w w') : Each E w' S vs xs :=
  ⟨h.1, fun k x hx => by obtain ⟨v, h1, h2⟩ := h.2 k x hx; exact ⟨v, h1, h2.keep hk⟩⟩
theorem Each.more {α : Type} {E : Enc α} {w : World} {S S' : Nat → Prop} {vs : List Value} {xs : List (List α)} (h : Each E w S vs xs) (hk : ∀ b, S b → S' b) : Each E w S' vs xs :=
  ⟨h.1, fun k x hx => by obtain ⟨v, h1, h2⟩ := h.2 k x hx; exact ⟨v, h1, h2.more hk⟩⟩
theorem Each.snoc {α : Type} {E : Enc α} {w : World} {S : Nat → Prop} {vs : List Value} {xs : List (List α)} {v : Value} {x : List α} (h : Each E w S vs xs) (hv : SlS E w S v x) : Each E w S (vs ++ [v]) (xs ++ [x]) :=
  ⟨by simp [h.1], fun k y hy => by
    rcases Nat.lt_trichotomy k xs.length with hk | hk | hk
    · rw [List.getElem?_append_left hk] at hy
      obtain ⟨u, h1, h2⟩ := h.2 k y hy
      exact ⟨u, by rw [List.getElem?_append_left (by rw [h.1]; exact hk)]; exact h1, h2⟩
    · rw [hk] at hy ⊢
      rw [List.getElem?_append_right (Nat.le_refl _)] at hy
      simp at hy
      subst hy
      exact ⟨v, by rw [List.getElem?_append_right (by rw [h.1]; exact Nat.le_refl _), h.1]; simp, hv⟩
    · rw [List.getElem?_append_right (by omega)] at hy
      have : ([x] : List (List α))[k - xs.length]? = none := List.getElem?_eq_none (by simp; omega)
      rw [this] at hy; cases hy⟩
theorem Each.nil {α : Type} {E : Enc α} {w : World} {S : Nat → Prop} : Each E w S [] [] := ⟨rfl, fun k x hx => by simp at hx⟩
theorem Each.sl {α : Type} {E : Enc α} {w : World} {S : Nat → Prop} {vs : List Value} {xs : List (List α)} {base e : Nat} {v : Value} (h : Each E w S vs xs) (ho : w.ownsRow base e 1 v xs.length vs) (hS : ∀ g, v.ownBlock = some g → S g) : SlS (SliceE E) w S v xs := by
  obtain ⟨A, cap, rfl, h1, h2⟩ := own_nil ho
  refine ⟨A, cap, rfl, h1, h2, Row.of_own (E := SliceE E) ho rfl hS fun k x hx => ?_⟩
  obtain ⟨u, hu, hs⟩ := h.2 k x hx
  refine ⟨[u], ⟨u, rfl, hs⟩, fun j y hy => ?_⟩
  cases j with
  | zero => simp at hy; subst hy; simpa [SliceE] using hu
  | succ j => simp at hy

end Go.Proofs.Ytoemoifeiigkoaa
