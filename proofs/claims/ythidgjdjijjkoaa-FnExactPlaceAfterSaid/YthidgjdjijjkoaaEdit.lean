import Derived.Test.YthidgjdjijjkoaaLen
namespace Go.Proofs.Ythidgjdjijjkoaa
open Go.RowKit

/-- An edit. -/
structure GEdit where
  kind : Int
  i : Int
  j : Int
  k : Int
  part : List GRule
  map : ByteArray
def usesJ (k : Int) : Bool := decide (2 ≤ k)
def usesK (k : Int) : Bool := k == 3 || k == 4 || k == 6
def EditV (w : World) (B : Nat) (v : Value) (e : GEdit) : Prop := ∃ vR, v = .agg #[.int .i64 e.kind, .int .i64 e.i, .int .i64 e.j, .int .i64 e.k, vR, .string e.map] ∧ Sl RuleE w B vR e.part
theorem EditV.below {w w' : World} {B : Nat} {v : Value} {e : GEdit} (h : EditV w B v e) (hb : Below B w w') : EditV w' B v e := by
  obtain ⟨vR, rfl, h1⟩ := h; exact ⟨vR, rfl, h1.below hb⟩
theorem EditV.le {w : World} {B B' : Nat} {v : Value} {e : GEdit} (h : EditV w B v e) (hb : B ≤ B') : EditV w B' v e := by
  obtain ⟨vR, rfl, h1⟩ := h; exact ⟨vR, rfl, h1.le hb⟩
theorem EditV.up {w0 w : World} {v : Value} {e : GEdit} (h : EditV w0 w0.heap.size v e) (hb : Below w0.heap.size w0 w) : EditV w w.heap.size v e := (h.below hb).le hb.size

def numOk (n : Int) (told : Bool) : Bool := if told then inR n 0 1000000000000000 else n == 0
def editOk (e : GEdit) : Bool :=
  inR e.kind 1 7 && inR e.i 0 1000000000000000 && numOk e.j (usesJ e.kind) && numOk e.k (usesK e.kind) && !(usesJ e.kind && decide (e.j < e.i)) &&
    (decide (0 < e.part.length) == (e.kind == 1)) && gramOk e.part && (if e.kind == 7 then e.map.size == 4 && wordOk e.map else e.map.size == 0)
def editFits (e : GEdit) (n : Int) : Bool :=
  if e.kind = 1 then decide (e.i ≤ n) else if e.kind = 3 then decide (e.j ≤ n) && decide (e.k ≤ n) else if e.kind = 4 then decide (e.j ≤ n) && (decide (e.k ≤ e.i) || (decide (e.j ≤ e.k) && decide (e.k ≤ n))) else decide (e.j ≤ n)
/-- The length behind an edit. -/
def editLen (e : GEdit) (n : Int) : Int :=
  if e.kind = 1 then n + gramLen e.part else if e.kind = 2 then n - (e.j - e.i) else if e.kind = 3 then n + (e.j - e.i) else if e.kind = 6 then n - (e.j - e.i) + (e.j - e.i) * e.k else n
def lessP (e : GEdit) (p : Int) : Int := if p ≤ e.i then p else if p < e.j then e.i else p - (e.j - e.i)
def placeP (e : GEdit) (p : Int) : Int :=
  if e.kind = 1 then (if e.i < p then p + gramLen e.part else p)
  else if e.kind = 2 then lessP e p
  else if e.kind = 3 then (if e.k < p then p + (e.j - e.i) else p)
  else if e.kind = 4 then (if e.i < p ∧ p < e.j then lessP e e.k + p - e.i else if lessP e e.k < lessP e p then lessP e p + (e.j - e.i) else lessP e p)
  else if e.kind = 5 then (if e.i < p ∧ p < e.j then e.i + e.j - p else p)
  else if e.kind = 6 then (if e.j ≤ p then p - (e.j - e.i) + (e.j - e.i) * e.k else if (e.i < p ∧ p < e.j) ∧ e.k = 0 then e.i else p)
  else p
/-- What PlaceAfter answers. -/
def paC (n : Int) (e : GEdit) (p : Int) : Int := if editOk e then if inR n 0 1000000000000000 && inR p 0 n && editFits e n then if editLen e n ≤ 1000000000000000 then 0 else 3 else 2 else 1
def paV (n : Int) (e : GEdit) (p : Int) : Int := if paC n e p = 0 then placeP e p else 0
/-- Six cells of a block. -/
def Box6 (w : World) (b : Nat) (c0 c1 c2 c3 c4 c5 : Value) : Prop := w.cell? ⟨b, 0, none⟩ = some c0 ∧ w.cell? ⟨b, 1, none⟩ = some c1 ∧ w.cell? ⟨b, 2, none⟩ = some c2 ∧ w.cell? ⟨b, 3, none⟩ = some c3 ∧ w.cell? ⟨b, 4, none⟩ = some c4 ∧ w.cell? ⟨b, 5, none⟩ = some c5
theorem Box6.up {w w' : World} {b N : Nat} {c0 c1 c2 c3 c4 c5 : Value} (h : Box6 w b c0 c1 c2 c3 c4 c5) (hb : Below N w w') (hlt : b < N) : Box6 w' b c0 c1 c2 c3 c4 c5 := by
  obtain ⟨h0, h1, h2, h3, h4, h5⟩ := h
  have k : ∀ {o : Nat} {v : Value}, w.cell? ⟨b, o, none⟩ = some v → w'.cell? ⟨b, o, none⟩ = some v := fun {o v} hc => (hb.cell (p := ⟨b, o, none⟩) hlt).trans hc
  exact ⟨k h0, k h1, k h2, k h3, k h4, k h5⟩
theorem Box6.new {w w' : World} {c0 c1 c2 c3 c4 c5 : Value} {t : TypeId} (hb : Below (w.alloc (.cells #[c0, c1, c2, c3, c4, c5] t)).heap.size (w.alloc (.cells #[c0, c1, c2, c3, c4, c5] t)) w') : Box6 w' w.heap.size c0 c1 c2 c3 c4 c5 :=
  Box6.up (w := w.alloc (.cells #[c0, c1, c2, c3, c4, c5] t)) ⟨by simp [go_sem], by simp [go_sem], by simp [go_sem], by simp [go_sem], by simp [go_sem], by simp [go_sem]⟩ hb (by simp)
theorem kind7 {k : Int} (h : inR k 1 7 = true) : k = 1 ∨ k = 2 ∨ k = 3 ∨ k = 4 ∨ k = 5 ∨ k = 6 ∨ k = 7 := by
  have : 1 ≤ k ∧ k ≤ 7 := by simpa [inR] using h
  omega
theorem numOk_get {n : Int} {b : Bool} (h : numOk n b = true) : 0 ≤ n ∧ n ≤ 1000000000000000 := by
  cases b
  · have : n = 0 := by simpa [numOk] using h
    omega
  · simpa [numOk, inR] using h
theorem editOk_get {e : GEdit} (h : editOk e = true) : inR e.kind 1 7 = true ∧ (0 ≤ e.i ∧ e.i ≤ 1000000000000000) ∧ (0 ≤ e.j ∧ e.j ≤ 1000000000000000) ∧ (0 ≤ e.k ∧ e.k ≤ 1000000000000000) ∧ (2 ≤ e.kind → e.i ≤ e.j) ∧ (e.kind = 1 → e.j = 0) ∧ gramOk e.part = true := by
  simp only [editOk, Bool.and_eq_true, Bool.not_eq_true'] at h
  obtain ⟨⟨⟨⟨⟨⟨⟨h1, h2⟩, h3⟩, h4⟩, h5⟩, h6⟩, h7⟩, h8⟩ := h
  refine ⟨h1, by simpa [inR] using h2, numOk_get h3, numOk_get h4, ?_, ?_, h7⟩
  · intro hk
    simp [usesJ] at h5
    have := h5 hk
    omega
  · intro hk
    rw [hk] at h3
    simpa [numOk, usesJ] using h3
end Go.Proofs.Ythidgjdjijjkoaa
