import Derived.Test.YtoemoifeiigkoaaLib
namespace Go.Proofs.Ytoemoifeiigkoaa
open Go.RowKit

/-- What stands in the blocks of S stands there in w', too. -/
def Keep (S : Nat → Prop) (w w' : World) : Prop := ∀ b, S b → w'.heap[b]? = w.heap[b]?
theorem Keep.cell {S : Nat → Prop} {w w' : World} (h : Keep S w w') {b o : Nat} (hb : S b) : w'.cell? ⟨b, o, none⟩ = w.cell? ⟨b, o, none⟩ := World.cell?_of_block (a := ⟨b, o, none⟩) (h b hb)
theorem Keep.of_below {B : Nat} {w w' : World} (h : Below B w w') : Keep (· < B) w w' := fun b hb => h.block b hb
theorem Keep.mono {S S' : Nat → Prop} {w w' : World} (h : Keep S w w') (hs : ∀ b, S' b → S b) : Keep S' w w' := fun b hb => h b (hs b hb)
theorem Keep.trans {S : Nat → Prop} {w w' w'' : World} (h : Keep S w w') (h' : Keep S w' w'') : Keep S w w'' := fun b hb => (h' b hb).trans (h b hb)
theorem Keep.refl (S : Nat → Prop) (w : World) : Keep S w w := fun _ _ => rfl
theorem Keep.of_grown {w w' : World} {row : Option Nat} (h : w.grownBy w' row) : Keep (fun b => b < w.heap.size ∧ some b ≠ row) w w' := fun b hb => h.block b hb.1 hb.2

/-- How a value of a type lies in cells; S: in which blocks. -/
structure Enc (α : Type) where
  size : Nat
  pos : 0 < size
  cells : World → (Nat → Prop) → α → List Value → Prop
  len : ∀ {w S x cs}, cells w S x cs → cs.length = size
  keep : ∀ {w w' S x cs}, cells w S x cs → Keep S w w' → cells w' S x cs
  more : ∀ {w S S' x cs}, cells w S x cs → (∀ b, S b → S' b) → cells w S' x cs
  one : ∀ {w S x cs}, cells w S x cs → ∀ u ∈ cs, u.oneCell' = true

def IntE : Enc Int where
  size := 1
  pos := by decide
  cells := fun _ _ x cs => cs = [.int .i64 x]
  len := by rintro _ _ _ _ rfl; rfl
  keep := fun h _ => h
  more := fun h _ => h
  one := by rintro _ _ _ _ rfl; simp [Value.oneCell']
def StrE : Enc ByteArray where
  size := 1
  pos := by decide
  cells := fun _ _ x cs => cs = [.string x]
  len := by rintro _ _ _ _ rfl; rfl
  keep := fun h _ => h
  more := fun h _ => h
  one := by rintro _ _ _ _ rfl; simp [Value.oneCell']
def RuleE : Enc GRule where
  size := 3
  pos := by decide
  cells := fun _ _ x cs => cs = x.cells
  len := by rintro _ _ _ _ rfl; rfl
  keep := fun h _ => h
  more := fun h _ => h
  one := by rintro _ _ _ _ rfl; simp [GRule.cells, Value.oneCell']

section
variable {α : Type} (E : Enc α)
/-- The elements xs lie from the address A on, in blocks of S. -/
def Row (w : World) (S : Nat → Prop) (A : Option Addr) (xs : List α) : Prop :=
  0 < xs.length → ∃ b o, A = some ⟨b, o, none⟩ ∧ S b ∧ ∀ k x, xs[k]? = some x → ∃ cs, E.cells w S x cs ∧ ∀ j u, cs[j]? = some u → w.cell? ⟨b, o + (k * E.size + j), none⟩ = some u
/-- The slice value v reads as the list xs, in blocks of S. -/
def SlS (w : World) (S : Nat → Prop) (v : Value) (xs : List α) : Prop := ∃ A c, v = .slice A xs.length c ∧ xs.length ≤ c ∧ c ≤ maxLen ∧ Row E w S A xs
/-- The slice value v reads as the list xs, below block B. -/
abbrev Sl (w : World) (B : Nat) (v : Value) (xs : List α) : Prop := SlS E w (· < B) v xs
variable {E} {w w' : World} {S S' : Nat → Prop} {B B' : Nat} {A : Option Addr} {v : Value} {xs : List α}
theorem Row.keep (h : Row E w S A xs) (hb : Keep S w w') : Row E w' S A xs := fun hn => by
  obtain ⟨b, o, rfl, hlt, hc⟩ := h hn
  refine ⟨b, o, rfl, hlt, fun k x hx => ?_⟩
  obtain ⟨cs, h1, h2⟩ := hc k x hx
  exact ⟨cs, E.keep h1 hb, fun j u hu => (hb.cell hlt).trans (h2 j u hu)⟩
theorem Row.more (h : Row E w S A xs) (hB : ∀ b, S b → S' b) : Row E w S' A xs := fun hn => by
  obtain ⟨b, o, rfl, hlt, hc⟩ := h hn
  refine ⟨b, o, rfl, hB _ hlt, fun k x hx => ?_⟩
  obtain ⟨cs, h1, h2⟩ := hc k x hx
  exact ⟨cs, E.more h1 hB, h2⟩
theorem SlS.keep (h : SlS E w S v xs) (hb : Keep S w w') : SlS E w' S v xs := by
  obtain ⟨A, c, rfl, h1, h0, h2⟩ := h
  exact ⟨A, c, rfl, h1, h0, h2.keep hb⟩
theorem SlS.more (h : SlS E w S v xs) (hB : ∀ b, S b → S' b) : SlS E w S' v xs := by
  obtain ⟨A, c, rfl, h1, h0, h2⟩ := h
  exact ⟨A, c, rfl, h1, h0, h2.more hB⟩
theorem SlS.below (h : Sl E w B v xs) (hb : Below B w w') : Sl E w' B v xs := h.keep (Keep.of_below hb)
theorem SlS.le (h : Sl E w B v xs) (hB : B ≤ B') : Sl E w B' v xs := h.more fun _ hb => Nat.lt_of_lt_of_le hb hB
theorem SlS.up {w0 : World} (h : Sl E w0 w0.heap.size v xs) (hb : Below w0.heap.size w0 w) : Sl E w w.heap.size v xs := (h.below hb).le hb.size
theorem SlS.drewN (h : SlS E w S v xs) (n : Nat) : SlS E (w.drewN n) S v xs := h.keep fun _ _ => rfl
theorem SlS.nil (w : World) (S : Nat → Prop) : SlS E w S (.slice none 0 0) [] := ⟨none, 0, rfl, Nat.le_refl _, Nat.zero_le _, fun h => absurd h (by simp)⟩
end

def SliceE {α : Type} (E : Enc α) : Enc (List α) where
  size := 1
  pos := by decide
  cells := fun w S x cs => ∃ v, cs = [v] ∧ SlS E w S v x
  len := by rintro _ _ _ _ ⟨v, rfl, _⟩; rfl
  keep := by rintro _ _ _ _ _ ⟨v, rfl, h⟩ hb; exact ⟨v, rfl, h.keep hb⟩
  more := by rintro _ _ _ _ _ ⟨v, rfl, h⟩ hb; exact ⟨v, rfl, h.more hb⟩
  one := by rintro _ _ _ _ ⟨v, rfl, A, c, rfl, _⟩; simp [Value.oneCell']

section
variable {w w' : World} {S : Nat → Prop} {A : Option Addr} {v : Value}
theorem Row.int {l : List Int} (h : Row IntE w S A l) {k : Nat} (hk : k < l.length) :
    ∃ b o, A = some ⟨b, o, none⟩ ∧ S b ∧ ∀ i, i < l.length → w.cell? ⟨b, o + i, none⟩ = some (.int .i64 (l.getD i 0)) := by
  obtain ⟨b, o, rfl, hlt, hc⟩ := h (by omega)
  refine ⟨b, o, rfl, hlt, fun i hi => ?_⟩
  obtain ⟨cs, h1, h2⟩ := hc i l[i] (List.getElem?_eq_getElem hi)
  have := h2 0 (.int .i64 l[i]) (by rw [show cs = [.int .i64 l[i]] from h1]; rfl)
  rw [List.getD_eq_getElem?_getD, List.getElem?_eq_getElem hi]
  simpa [IntE] using this
theorem Row.str {l : List ByteArray} (h : Row StrE w S A l) {k : Nat} (hk : k < l.length) :
    ∃ b o, A = some ⟨b, o, none⟩ ∧ S b ∧ ∀ i x, l[i]? = some x → w.cell? ⟨b, o + i, none⟩ = some (.string x) := by
  obtain ⟨b, o, rfl, hlt, hc⟩ := h (by omega)
  refine ⟨b, o, rfl, hlt, fun i x hi => ?_⟩
  obtain ⟨cs, h1, h2⟩ := hc i x hi
  have := h2 0 (.string x) (by rw [show cs = [.string x] from h1]; rfl)
  simpa [StrE] using this
theorem Row.rule {l : List GRule} (h : Row RuleE w S A l) {k : Nat} (hk : k < l.length) :
    ∃ b o, A = some ⟨b, o, none⟩ ∧ S b ∧ ∀ i r, l[i]? = some r → w.cell? ⟨b, o + i * 3, none⟩ = some (.string r.letter) ∧ w.cell? ⟨b, o + i * 3 + 1, none⟩ = some (.int .i64 r.left) ∧ w.cell? ⟨b, o + i * 3 + 2, none⟩ = some (.int .i64 r.right) := by
  obtain ⟨b, o, rfl, hlt, hc⟩ := h (by omega)
  refine ⟨b, o, rfl, hlt, fun i r hi => ?_⟩
  obtain ⟨cs, h1, h2⟩ := hc i r hi
  have e : cs = r.cells := h1
  subst e
  exact ⟨by simpa [RuleE] using h2 0 _ rfl, by simpa [RuleE, Nat.add_assoc] using h2 1 _ rfl, by simpa [RuleE, Nat.add_assoc] using h2 2 _ rfl⟩
theorem Row.sl {α : Type} {E : Enc α} {l : List (List α)} (h : Row (SliceE E) w S A l) {k : Nat} (hk : k < l.length) :
    ∃ b o, A = some ⟨b, o, none⟩ ∧ S b ∧ ∀ i x, l[i]? = some x → ∃ v, w.cell? ⟨b, o + i, none⟩ = some v ∧ SlS E w S v x := by
  obtain ⟨b, o, rfl, hlt, hc⟩ := h (by omega)
  refine ⟨b, o, rfl, hlt, fun i x hi => ?_⟩
  obtain ⟨cs, ⟨v, rfl, h1⟩, h2⟩ := hc i x hi
  exact ⟨v, by simpa [SliceE] using h2 0 v rfl, h1⟩
theorem Row.of_own {α : Type} {E : Enc α} {base e c : Nat} {xs : List α} {n : Nat} {A : Option Addr} {us : List Value} (h : w.ownsRow base e E.size (.slice A n c) n us) (hl : xs.length = n)
    (hS : ∀ g, (Value.slice A n c).ownBlock = some g → S g)
    (hx : ∀ k x, xs[k]? = some x → ∃ cs, E.cells w S x cs ∧ ∀ j u, cs[j]? = some u → us[k * E.size + j]? = some u) : Row E w S A xs := fun hn => by
  obtain ⟨g, cap, hv, hb, hlt, _, hcell⟩ := own_form h (by omega)
  injection hv with hA
  subst hA
  refine ⟨g, 0, rfl, hS g rfl, fun k x hk => ?_⟩
  obtain ⟨cs, h1, h2⟩ := hx k x hk
  exact ⟨cs, h1, fun j u hu => by rw [Nat.zero_add]; exact hcell _ _ (h2 j u hu)⟩
/-- An own row of numbers, read as a list. -/
theorem OwnInts.slS {base : Nat} {l : List Int} (h : OwnInts w base v l) (hS : ∀ g, v.ownBlock = some g → S g) : SlS IntE w S v l := by
  obtain ⟨A, cap, rfl, h1, h2⟩ := own_nil h
  refine ⟨A, cap, rfl, h1, h2, Row.of_own (E := IntE) h rfl hS fun k x hx => ⟨[.int .i64 x], rfl, fun j u hu => ?_⟩⟩
  cases j with
  | zero => simp at hu; subst hu; simp [IntE, hx]
  | succ j => simp at hu
theorem OwnRules.slS {base : Nat} {l : List GRule} (h : OwnRules w base v l) (hS : ∀ g, v.ownBlock = some g → S g) : SlS RuleE w S v l := by
  obtain ⟨A, cap, rfl, h1, h2⟩ := own_nil h
  refine ⟨A, cap, rfl, h1, h2, Row.of_own (E := RuleE) h rfl hS fun k r hx => ⟨r.cells, rfl, fun j u hu => ?_⟩⟩
  obtain ⟨c0, c1, c2⟩ := cells3 l k r hx
  match j, hu with
  | 0, hu => simp [GRule.cells] at hu; subst hu; simpa [RuleE] using c0
  | 1, hu => simp [GRule.cells] at hu; subst hu; simpa [RuleE] using c1
  | 2, hu => simp [GRule.cells] at hu; subst hu; simpa [RuleE] using c2
  | j + 3, hu => simp [GRule.cells] at hu
theorem OwnInts.sl {base : Nat} {l : List Int} (h : OwnInts w base v l) : Sl IntE w w.heap.size v l := h.slS fun g hg => (h.lt g hg).2
theorem OwnRules.sl {base : Nat} {l : List GRule} (h : OwnRules w base v l) : Sl RuleE w w.heap.size v l := h.slS fun g hg => (h.lt g hg).2
end
end Go.Proofs.Ytoemoifeiigkoaa
