import Derived.Test.YtejgbfgocaggfaaM4
import Derived.Test.YtejgbfgocaggfaaM3
import Derived.Deep.RegionLaw
import Derived.RangeFuncBox
import Derived.Test.YtejgbfgocaggfaaM2
import Derived.Deep.CutRange
import Derived.Deep.DeepCutAuto
import Derived.Test.YtejgbfgocaggfaaM1
import Derived.Maps.Keyed
import Derived.DeepKeys4
namespace Go.Proofs.Ytejgbfgocaggfaa
def wordR (xs : List GRule) : Nat → Nat → List UInt8
  | 0, _ => []
  | f + 1, r => if (getR xs r).pair then wordR xs f (getR xs r).left.toNat ++ wordR xs f (getR xs r).right.toNat else (getR xs r).letter.data.toList
def W1 (xs : List GRule) (r : Nat) : List UInt8 := wordR xs (r + 1) r
def wordG (xs : List GRule) : List UInt8 := if xs = [] then [] else W1 xs (xs.length - 1)
def cutL {α : Type} (l : List α) (i j : Int) : List α := (l.take j.toNat).drop i.toNat
theorem wordR_fuel {xs : List GRule} {ls : List Int} (h : lens xs = some ls) : ∀ (f r : Nat), r < f → r < xs.length → wordR xs f r = W1 xs r := by
  intro f
  induction f using Nat.strongRecOn with
  | _ f ih =>
    intro r hr hx
    obtain ⟨g, rfl⟩ : ∃ g, f = g + 1 := ⟨f - 1, by omega⟩
    unfold W1
    rw [wordR, wordR]
    cases hp : (getR xs r).pair with
    | false => rfl
    | true =>
      obtain ⟨q1, q2, q3, q4, q5⟩ := lens_pair h hx hp
      rw [if_pos rfl, if_pos rfl, ih g (by omega) _ (by omega) (by omega), ih g (by omega) _ (by omega) (by omega)]
      by_cases e : r = g
      · subst e
        rw [ih r (by omega) _ (by omega) (by omega), ih r (by omega) _ (by omega) (by omega)]
      · rw [ih r (by omega) _ q2 (by omega), ih r (by omega) _ q4 (by omega)]
theorem W1_pair {xs : List GRule} {ls : List Int} (h : lens xs = some ls) {r : Nat} (hx : r < xs.length) (hp : (getR xs r).pair = true) : W1 xs r = W1 xs (getR xs r).left.toNat ++ W1 xs (getR xs r).right.toNat := by
  obtain ⟨q1, q2, q3, q4, q5⟩ := lens_pair h hx hp
  rw [W1, wordR, if_pos hp, wordR_fuel h r _ q2 (by omega), wordR_fuel h r _ q4 (by omega)]
theorem W1_let {xs : List GRule} {r : Nat} (hp : (getR xs r).pair = false) : W1 xs r = (getR xs r).letter.data.toList := by
  rw [W1, wordR, if_neg (by simp [hp])]
theorem lens_isLet {xs : List GRule} {ls : List Int} (h : lens xs = some ls) {r : Nat} (hx : r < xs.length) (hp : (getR xs r).pair = false) : isLet (getR xs r).letter = true := by
  have h1 := (lens_steps h r _ (getR_at hx)).1
  unfold okRule at h1
  rw [if_neg (by simp [hp])] at h1
  simp at h1; exact h1.1.1
theorem isLet_size {s : ByteArray} (h : isLet s = true) : s.size = 1 := by unfold isLet at h; simp at h; exact h.1.1
theorem W1_len {xs : List GRule} {ls : List Int} (h : lens xs = some ls) : ∀ (r : Nat), r < xs.length → ((W1 xs r).length : Int) = ls.getD r 0 := by
  intro r
  induction r using Nat.strongRecOn with
  | _ r ih =>
    intro hx
    cases hp : (getR xs r).pair with
    | false =>
      rw [W1_let hp, lens_letter h hx hp]
      have := isLet_size (lens_isLet h hx hp)
      show (((getR xs r).letter.data.toList.length : Nat) : Int) = 1
      rw [Array.length_toList]
      exact congrArg _ this
    | true =>
      obtain ⟨q1, q2, q3, q4, q5⟩ := lens_pair h hx hp
      rw [W1_pair h hx hp, List.length_append, q5, ← ih _ q2 (by omega), ← ih _ q4 (by omega)]
      omega
theorem cutL_append {α : Type} (a b : List α) (i j : Int) : cutL (a ++ b) i j = cutL a i j ++ cutL b (i - a.length) (j - a.length) := by
  unfold cutL
  rw [List.take_append, List.drop_append]
  have e1 : (j - (a.length : Int)).toNat = j.toNat - a.length := by omega
  have e2 : (i - (a.length : Int)).toNat = i.toNat - a.length := by omega
  rw [e1, e2, List.length_take]
  congr 1
  by_cases hj : j.toNat ≤ a.length
  · have : List.take (j.toNat - a.length) b = [] := by rw [show j.toNat - a.length = 0 by omega]; rfl
    rw [this]; simp
  · rw [show min j.toNat a.length = a.length by omega]
theorem cutL_nil {α : Type} {l : List α} {i j : Int} (h : (l.length : Int) ≤ i ∨ j ≤ 0 ∨ j ≤ i) : cutL l i j = [] := by
  unfold cutL
  apply List.drop_eq_nil_of_le
  rw [List.length_take]; omega
theorem cutL_all {α : Type} {l : List α} {i j : Int} (hi : i ≤ 0) (hj : (l.length : Int) ≤ j) : cutL l i j = l := by
  unfold cutL
  rw [show i.toNat = 0 by omega, List.drop_zero, List.take_of_length_le (by omega)]
theorem cutL_len {α : Type} {l : List α} {i j : Int} (hi : 0 ≤ i) (hij : i ≤ j) (hj : j ≤ l.length) : ((cutL l i j).length : Int) = j - i := by
  unfold cutL
  rw [List.length_drop, List.length_take]; omega
theorem cover_word {xs : List GRule} {ls : List Int} (h : lens xs = some ls) {i j : Int} : ∀ (f r : Nat) (p : Int), r < f → r < xs.length →
    (coverR xs ls i j f r p).flatMap (W1 xs) = cutL (W1 xs r) (i - p) (j - p) := by
  intro f
  induction f with
  | zero => intro r p hr; omega
  | succ f ih =>
    intro r p hr hx
    have hw := W1_len h r hx
    have h1 := lens_pos' h hx
    rw [coverR]
    split
    · rename_i c; rw [cutL_nil (by omega)]; rfl
    split
    · rename_i c; rw [cutL_all (by omega) (by omega)]; simp
    rename_i c1 c2
    cases hp : (getR xs r).pair with
    | false => have := lens_letter h hx hp; omega
    | true =>
      obtain ⟨q1, q2, q3, q4, q5⟩ := lens_pair h hx hp
      rw [List.flatMap_append, ih _ _ (by omega) (by omega), ih _ _ (by omega) (by omega), W1_pair h hx hp, cutL_append, W1_len h _ (by omega)]
      congr 2 <;> omega
theorem wordG_pos {xs : List GRule} (h : 0 < xs.length) : wordG xs = W1 xs (xs.length - 1) := by
  rw [wordG, if_neg (by intro e; subst e; simp at h)]
theorem lastI_at {xs : List GRule} {ls : List Int} (h : lens xs = some ls) (_h0 : 0 < xs.length) : lastI ls = ls.getD (xs.length - 1) 0 := by
  rw [lastI, lens_length h]
theorem wordG_len {xs : List GRule} {ls : List Int} (h : lens xs = some ls) : ((wordG xs).length : Int) = lastI ls := by
  by_cases h0 : 0 < xs.length
  · rw [wordG_pos h0, W1_len h _ (by omega), lastI_at h h0]
  · have hx : xs = [] := List.eq_nil_of_length_eq_zero (by omega)
    subst hx
    have : ls = [] := List.eq_nil_of_length_eq_zero (by rw [lens_length h]; rfl)
    subst this; rfl
theorem pieces_word {xs : List GRule} {ls : List Int} (h : lens xs = some ls) {i j : Int} : (piecesL xs ls i j).flatMap (W1 xs) = cutL (wordG xs) i j := by
  unfold piecesL
  split
  · rename_i c
    rw [cover_word h _ _ _ (by omega) (by omega), wordG_pos c.1, Int.sub_zero, Int.sub_zero]
  · rename_i c
    by_cases h0 : 0 < xs.length
    · rw [cutL_nil (by omega)]; rfl
    · have hx : xs = [] := List.eq_nil_of_length_eq_zero (by omega)
      subst hx
      simp [wordG, cutL]
def visV (next : List (List Int)) (x : Nat) : Nat → List UInt8 → Nat
  | _, [] => 0
  | s, c :: w => (if stepW next s (c.toNat - 97) = x then 1 else 0) + visV next x (stepW next s (c.toNat - 97)) w
theorem readW_app (next : List (List Int)) (s : Nat) (u v : List UInt8) : readW next s (u ++ v) = readW next (readW next s u) v := by simp [readW, List.foldl_append]
theorem visV_app (next : List (List Int)) (x : Nat) : ∀ (u v : List UInt8) (s : Nat), visV next x s (u ++ v) = visV next x s u + visV next x (readW next s u) v := by
  intro u
  induction u with
  | nil => intro v s; simp [visV, readW]
  | cons c u ih =>
    intro v s
    rw [List.cons_append, visV, visV, ih v]
    have : readW next s (c :: u) = readW next (stepW next s (c.toNat - 97)) u := rfl
    rw [this]; omega
def dotR (F : Nat → Nat) : Nat → List Nat → Nat
  | _, [] => 0
  | k, n :: l => n * F k + dotR F (k + 1) l
def addR (l : List Nat) (s n : Nat) : List Nat := l.set s (l.getD s 0 + n)
theorem addR_len (l : List Nat) (s n : Nat) : (addR l s n).length = l.length := by simp [addR]
theorem dotR_add (F : Nat → Nat) : ∀ (l : List Nat) (k s n : Nat), s < l.length → dotR F k (addR l s n) = dotR F k l + n * F (k + s) := by
  intro l
  induction l with
  | nil => intro k s n h; exact absurd h (by simp)
  | cons m l ih =>
    intro k s n h
    match s with
    | 0 => simp only [addR, List.set_cons_zero, List.getD_cons_zero, dotR, Nat.add_mul, Nat.add_zero]; omega
    | s + 1 =>
      have e : addR (m :: l) (s + 1) n = m :: addR l s n := by simp [addR]
      rw [e, dotR, dotR, ih (k + 1) s n (by simpa using h), show k + 1 + s = k + (s + 1) by omega]; omega
theorem dotR_drop (F : Nat → Nat) : ∀ (l : List Nat) (k s : Nat), s < l.length → dotR F (k + s) (l.drop s) = l.getD s 0 * F (k + s) + dotR F (k + s + 1) (l.drop (s + 1)) := by
  intro l
  induction l with
  | nil => intro k s h; exact absurd h (by simp)
  | cons m l ih =>
    intro k s h
    match s with
    | 0 => simp [dotR]
    | s + 1 =>
      have := ih (k + 1) s (by simpa using h)
      simp only [List.drop_succ_cons, List.getD_cons_succ]
      rw [show k + (s + 1) = k + 1 + s by omega]; exact this
theorem dotR_zero (F : Nat → Nat) : ∀ (n k : Nat), dotR F k (List.replicate n 0) = 0 := by
  intro n
  induction n with
  | zero => intro k; rfl
  | succ n ih => intro k; rw [List.replicate_succ, dotR, ih]; omega
theorem dotR_le (F : Nat → Nat) : ∀ (l : List Nat) (k s : Nat), s < l.length → l.getD s 0 * F (k + s) ≤ dotR F k l := by
  intro l
  induction l with
  | nil => intro k s h; exact absurd h (by simp)
  | cons m l ih =>
    intro k s h
    match s with
    | 0 => simp [dotR]
    | s + 1 =>
      have := ih (k + 1) s (by simpa using h)
      rw [show k + (s + 1) = k + 1 + s by omega, List.getD_cons_succ, dotR]; omega
def dotM (F : Nat → Nat → Nat) (M : List (List Nat)) : Nat → Nat
  | 0 => 0
  | k + 1 => dotM F M k + dotR (F k) 0 (M.getD k [])
def addM (M : List (List Nat)) (r s n : Nat) : List (List Nat) := M.set r (addR (M.getD r []) s n)
theorem addM_len (M : List (List Nat)) (r s n : Nat) : (addM M r s n).length = M.length := by simp [addM]
theorem addM_get (M : List (List Nat)) (r s n k : Nat) (hr : r < M.length) : (addM M r s n).getD k [] = if k = r then addR (M.getD r []) s n else M.getD k [] := by
  unfold addM
  by_cases e : k = r
  · subst e; rw [if_pos rfl, List.getD_eq_getElem?_getD, List.getElem?_set_self hr]; rfl
  · rw [if_neg e, List.getD_eq_getElem?_getD, List.getElem?_set_ne (by omega), List.getD_eq_getElem?_getD]
def RowsN (n : Nat) (M : List (List Nat)) : Prop := ∀ t, t < M.length → (M.getD t []).length = n
theorem RowsN.add {n : Nat} {M : List (List Nat)} (h : RowsN n M) (r s m : Nat) (hr : r < M.length) : RowsN n (addM M r s m) := by
  intro t ht
  rw [addM_len] at ht
  rw [addM_get M r s m t hr]
  split
  · rw [addR_len]; exact h r hr
  · exact h t ht
theorem dotM_add (F : Nat → Nat → Nat) (M : List (List Nat)) (r s n : Nat) (hr : r < M.length) (hs : s < (M.getD r []).length) : ∀ k, dotM F (addM M r s n) k = dotM F M k + if r < k then n * F r s else 0 := by
  intro k
  induction k with
  | zero => simp [dotM]
  | succ k ih =>
    rw [dotM, dotM, ih, addM_get M r s n k hr]
    by_cases e : k = r
    · subst e
      rw [if_pos rfl, dotR_add _ _ _ _ _ hs, if_neg (by omega), if_pos (by omega), Nat.zero_add]; omega
    · rw [if_neg e]
      by_cases h2 : r < k
      · rw [if_pos h2, if_pos (by omega)]; omega
      · rw [if_neg h2, if_neg (by omega)]; omega
theorem dotM_le (F : Nat → Nat → Nat) (M : List (List Nat)) {r s : Nat} (hs : s < (M.getD r []).length) : ∀ k, r < k → (M.getD r []).getD s 0 * F r s ≤ dotM F M k := by
  intro k
  induction k with
  | zero => intro h; exact absurd h (by omega)
  | succ k ih =>
    intro h
    rw [dotM]
    by_cases e : r = k
    · subst e
      have := dotR_le (F r) (M.getD r []) 0 s hs
      rw [Nat.zero_add] at this; omega
    · have := ih (by omega); omega
def visStep (xs : List GRule) (maps : List (List Int)) (i : Nat) (st : List (List Nat) × List Nat) (s : Nat) : List (List Nat) × List Nat :=
  if (getR xs i).pair then
    (addM (addM st.1 (getR xs i).left.toNat s ((st.1.getD i []).getD s 0)) (getR xs i).right.toNat (stepM maps s (getR xs i).left.toNat) ((st.1.getD i []).getD s 0), st.2)
  else (st.1, addR st.2 (stepM maps s i) ((st.1.getD i []).getD s 0))
def visRow (xs : List GRule) (maps : List (List Int)) (i : Nat) (st : List (List Nat) × List Nat) : Nat → List (List Nat) × List Nat
  | 0 => st
  | s + 1 => visStep xs maps i (visRow xs maps i st s) s
def visAll (xs : List GRule) (maps : List (List Int)) (S : Nat) : Nat → List (List Nat) × List Nat → List (List Nat) × List Nat
  | 0, st => st
  | k + 1, st => visAll xs maps S k (visRow xs maps k st S)
def pot (F : Nat → Nat → Nat) (G : Nat → Nat) (st : List (List Nat) × List Nat) (k : Nat) : Nat := dotM F st.1 k + dotR G 0 st.2
structure Wts (xs : List GRule) (maps : List (List Int)) (S : Nat) (F : Nat → Nat → Nat) (G : Nat → Nat) : Prop where
  two : ∀ r s, r < xs.length → s < S → (getR xs r).pair = true → F r s = F (getR xs r).left.toNat s + F (getR xs r).right.toNat (stepM maps s (getR xs r).left.toNat)
  one : ∀ r s, r < xs.length → s < S → (getR xs r).pair = false → F r s = G (stepM maps s r)
structure VisS (xs : List GRule) (S : Nat) (st : List (List Nat) × List Nat) : Prop where
  len : st.1.length = xs.length
  rows : RowsN S st.1
  out : st.2.length = S
theorem VisS.step {xs : List GRule} {ls : List Int} {maps : List (List Int)} {S : Nat} {st : List (List Nat) × List Nat} (hl : lens xs = some ls) (h : VisS xs S st) {i s : Nat} (hi : i < xs.length) : VisS xs S (visStep xs maps i st s) := by
  unfold visStep
  cases hp : (getR xs i).pair with
  | true =>
    obtain ⟨q1, q2, q3, q4, _⟩ := lens_pair hl hi hp
    rw [if_pos rfl]
    exact ⟨by simp only [addM_len]; exact h.len, (h.rows.add _ _ _ (by rw [h.len]; omega)).add _ _ _ (by rw [addM_len, h.len]; omega), h.out⟩
  | false => rw [if_neg (by simp)]; exact ⟨h.len, h.rows, by rw [addR_len]; exact h.out⟩
theorem VisS.row {xs : List GRule} {ls : List Int} {maps : List (List Int)} {S : Nat} {st : List (List Nat) × List Nat} (hl : lens xs = some ls) (h : VisS xs S st) {i : Nat} (hi : i < xs.length) : ∀ s, VisS xs S (visRow xs maps i st s) := by
  intro s
  induction s with
  | zero => exact h
  | succ s ih => exact ih.step hl hi
theorem visRow_get {xs : List GRule} {ls : List Int} {maps : List (List Int)} {S : Nat} {st : List (List Nat) × List Nat} (hl : lens xs = some ls) (h : VisS xs S st) {i : Nat} (hi : i < xs.length) : ∀ s, (visRow xs maps i st s).1.getD i [] = st.1.getD i [] := by
  intro s
  induction s with
  | zero => rfl
  | succ s ih =>
    have hv := h.row (maps := maps) hl hi s
    rw [visRow]
    unfold visStep
    cases hp : (getR xs i).pair with
    | true =>
      obtain ⟨q1, q2, q3, q4, _⟩ := lens_pair hl hi hp
      rw [if_pos rfl]
      show (addM _ _ _ _).getD i [] = _
      rw [addM_get _ _ _ _ _ (by rw [addM_len, hv.len]; omega), if_neg (by omega), addM_get _ _ _ _ _ (by rw [hv.len]; omega), if_neg (by omega), ih]
    | false => rw [if_neg (by simp)]; exact ih
theorem visRow_pot {xs : List GRule} {ls : List Int} {maps : List (List Int)} {S : Nat} {st : List (List Nat) × List Nat} {F : Nat → Nat → Nat} {G : Nat → Nat} (hl : lens xs = some ls) (h : VisS xs S st) (hW : Wts xs maps S F G) (hok : RowsOk S maps) (hm : maps.length = xs.length)
    {i : Nat} (hi : i < xs.length) : ∀ s, s ≤ S → pot F G (visRow xs maps i st s) i + dotR (F i) s ((st.1.getD i []).drop s) = pot F G st (i + 1) := by
  have hrow : (st.1.getD i []).length = S := h.rows i (by rw [h.len]; exact hi)
  intro s
  induction s with
  | zero => intro _; simp only [visRow, pot, dotM, List.drop_zero]; omega
  | succ s ih =>
    intro hs
    have e1 := ih (by omega)
    have e2 := dotR_drop (F i) (st.1.getD i []) 0 s (by omega)
    rw [Nat.zero_add] at e2
    have hv := h.row (maps := maps) hl hi s
    have hg := visRow_get (maps := maps) hl h hi s
    have hst : ∀ r, r < xs.length → stepM maps s r < S := fun r hr => by
      have := (hok r (by omega)).2 s (by omega)
      unfold stepM; omega
    rw [← e1, e2, visRow]
    generalize visRow xs maps i st s = sv at hv hg ⊢
    unfold visStep
    cases hp : (getR xs i).pair with
    | true =>
      obtain ⟨q1, q2, q3, q4, _⟩ := lens_pair hl hi hp
      rw [if_pos rfl, hW.two i s hi (by omega) hp]
      unfold pot
      simp only []
      rw [dotM_add _ _ _ _ _ (by rw [addM_len, hv.len]; omega) (by rw [(hv.rows.add _ _ _ (by rw [hv.len]; omega)) _ (by rw [addM_len, hv.len]; omega)]; exact hst _ (by omega)), if_pos (by omega),
        dotM_add _ _ _ _ _ (by rw [hv.len]; omega) (by rw [hv.rows _ (by rw [hv.len]; omega)]; omega), if_pos (by omega), hg, Nat.mul_add]
      omega
    | false =>
      rw [if_neg (by simp), hW.one i s hi (by omega) hp]
      unfold pot
      simp only []
      rw [dotR_add _ _ _ _ _ (by rw [hv.out]; exact hst i hi), hg, Nat.zero_add]
      omega
theorem visAll_pot {xs : List GRule} {ls : List Int} {maps : List (List Int)} {S : Nat} {F : Nat → Nat → Nat} {G : Nat → Nat} (hl : lens xs = some ls) (hW : Wts xs maps S F G) (hok : RowsOk S maps) (hm : maps.length = xs.length) :
    ∀ (k : Nat) (st : List (List Nat) × List Nat), k ≤ xs.length → VisS xs S st → dotR G 0 (visAll xs maps S k st).2 = pot F G st k ∧ VisS xs S (visAll xs maps S k st) := by
  intro k
  induction k with
  | zero => intro st _ h; exact ⟨by simp [visAll, pot, dotM], h⟩
  | succ k ih =>
    intro st hk h
    have hr := h.row (maps := maps) hl (i := k) (by omega) S
    have e := visRow_pot hl h hW hok hm (i := k) (by omega) S (Nat.le_refl _)
    have hrow : (st.1.getD k []).length = S := h.rows k (by rw [h.len]; omega)
    rw [List.drop_of_length_le (by omega), dotR, Nat.add_zero] at e
    obtain ⟨g1, g2⟩ := ih _ (by omega) hr
    exact ⟨by rw [visAll, g1, e], by rw [visAll]; exact g2⟩
theorem mapsOf_take {next : List (List Int)} {xs : List GRule} {r : Nat} : ∀ k, r < k → k ≤ xs.length → (mapsOf next (xs.take k)).getD r [] = mapRow next (mapsOf next (xs.take r)) (getR xs r) := by
  intro k
  induction k with
  | zero => intro h; exact absurd h (by omega)
  | succ k ih =>
    intro h hk
    have hlen : (mapsOf next (xs.take k)).length = k := by rw [mapsOf_len, List.length_take]; omega
    rw [mapsOf_snoc (getR_at (xs := xs) (r := k) (by omega))]
    by_cases e : r = k
    · subst e
      rw [List.getD_eq_getElem?_getD, List.getElem?_append_right (by omega), hlen, Nat.sub_self]; rfl
    · rw [List.getD_eq_getElem?_getD, List.getElem?_append_left (by omega), ← List.getD_eq_getElem?_getD, ih (by omega) (by omega)]
theorem stepM_word {a : GAuto} (ha : autoOk a = true) {xs : List GRule} {ls : List Int} (hl : lens xs = some ls) : ∀ (r s : Nat), r < xs.length → s < a.next.length → stepM (mapsOf a.next xs) s r = readW a.next s (W1 xs r) := by
  intro r
  induction r using Nat.strongRecOn with
  | _ r ih =>
    intro s hr hs
    have e := mapsOf_take (next := a.next) (xs := xs) (r := r) xs.length hr (Nat.le_refl _)
    rw [List.take_length] at e
    have e0 : stepM (mapsOf a.next xs) s r = (mapCell a.next (mapsOf a.next (xs.take r)) (getR xs r) s).toNat := by
      unfold stepM; rw [e, mapRow_get _ _ _ hs]
    rw [e0]
    unfold mapCell
    cases hp : (getR xs r).pair with
    | true =>
      obtain ⟨q1, q2, q3, q4, _⟩ := lens_pair hl hr hp
      have f : ∀ t, t < r → (mapsOf a.next (xs.take r)).getD t [] = (mapsOf a.next xs).getD t [] := fun t ht => by
        rw [mapsOf_take r ht (by omega)]
        have := mapsOf_take (next := a.next) (xs := xs) (r := t) xs.length (by omega) (Nat.le_refl _)
        rw [List.take_length] at this; rw [this]
      rw [if_pos rfl, f _ (by omega), f _ (by omega), W1_pair hl hr hp, readW_app]
      have h1 := ih (getR xs r).left.toNat (by omega) s (by omega) hs
      have hok := mapsOf_ok ha hl xs.length (Nat.le_refl _)
      rw [List.take_length] at hok
      have hb := (hok (getR xs r).left.toNat (by rw [mapsOf_len]; omega)).2 s hs
      have h2 := ih (getR xs r).right.toNat (by omega) (((mapsOf a.next xs).getD (getR xs r).left.toNat []).getD s 0).toNat (by omega) (by omega)
      unfold stepM at h1 h2
      rw [h2, h1]
    | false =>
      rw [if_neg (by simp), W1_let hp]
      have hsz := isLet_size (lens_isLet hl hr hp)
      have hL : (getR xs r).letter.data.toList.length = 1 := by rw [Array.length_toList]; exact hsz
      have hx : (getR xs r).letter.data.getD 0 0 = (getR xs r).letter.data.toList.getD 0 0 := by
        rw [Array.getD_eq_getD_getElem?, List.getD_eq_getElem?_getD, Array.getElem?_toList]
      rw [hx]
      generalize (getR xs r).letter.data.toList = L at hL ⊢
      match L, hL with
      | [c], _ => rfl
theorem fold_word {a : GAuto} (ha : autoOk a = true) {xs : List GRule} {ls : List Int} (hl : lens xs = some ls) : ∀ (L : List Nat) (s : Nat), (∀ r ∈ L, r < xs.length) → s < a.next.length → L.foldl (stepM (mapsOf a.next xs)) s = readW a.next s (L.flatMap (W1 xs)) := by
  have hok := mapsOf_ok ha hl xs.length (Nat.le_refl _)
  rw [List.take_length] at hok
  intro L
  induction L with
  | nil => intro s _ _; rfl
  | cons r L ih =>
    intro s h hs
    have hr := h r (by simp)
    have hst : stepM (mapsOf a.next xs) s r < a.next.length := by
      have := (hok r (by rw [mapsOf_len]; exact hr)).2 s hs
      unfold stepM; omega
    rw [List.foldl_cons, ih _ (fun x hx => h x (by simp [hx])) hst, List.flatMap_cons, readW_app, stepM_word ha hl r s hr hs]
def visPut (maps : List (List Int)) : List Nat → List (List Nat) → Nat → List (List Nat)
  | [], M, _ => M
  | r :: L, M, s => visPut maps L (addM M r s 1) (stepM maps s r)
theorem visPut_pot {xs : List GRule} {maps : List (List Int)} {S : Nat} (F : Nat → Nat → Nat) (hok : RowsOk S maps) (hm : maps.length = xs.length) :
    ∀ (L : List Nat) (M : List (List Nat)) (s : Nat), (∀ r ∈ L, r < xs.length) → M.length = xs.length → RowsN S M → s < S →
      RowsN S (visPut maps L M s) ∧ (visPut maps L M s).length = xs.length ∧
      ∃ t, dotM F (visPut maps L M s) xs.length = dotM F M xs.length + t ∧ ∀ (f : Nat → List Nat → Nat), (∀ s, f s [] = 0) → (∀ s r L, r < xs.length → s < S → f s (r :: L) = F r s + f (stepM maps s r) L) → t = f s L := by
  intro L
  induction L with
  | nil => intro M s _ hM hR _; exact ⟨hR, hM, 0, rfl, fun f h0 _ => (h0 s).symm⟩
  | cons r L ih =>
    intro M s h hM hR hs
    have hr := h r (by simp)
    have hst : stepM maps s r < S := by
      have := (hok r (by omega)).2 s hs
      unfold stepM; omega
    obtain ⟨g1, g2, t, g3, g4⟩ := ih (addM M r s 1) (stepM maps s r) (fun x hx => h x (by simp [hx])) (by rw [addM_len]; exact hM) (hR.add _ _ _ (by omega)) hst
    refine ⟨g1, g2, F r s + t, ?_, fun f h0 h1 => by rw [h1 s r L hr hs, g4 f h0 h1]⟩
    rw [visPut, g3, dotM_add F M r s 1 (by omega) (by rw [hR r (by omega)]; exact hs), if_pos hr]; omega
theorem dotM_zero (F : Nat → Nat → Nat) (m S : Nat) : ∀ k, k ≤ m → dotM F (List.replicate m (List.replicate S 0)) k = 0 := by
  intro k
  induction k with
  | zero => intro _; rfl
  | succ k ih =>
    intro h
    have e : (List.replicate m (List.replicate S 0)).getD k [] = List.replicate S 0 := by
      rw [List.getD_eq_getElem?_getD, List.getElem?_replicate_of_lt (by omega)]; rfl
    rw [dotM, ih (by omega), e, dotR_zero]
theorem dotR_ind (x : Nat) : ∀ (l : List Nat) (k : Nat), dotR (fun y => if y = x then 1 else 0) k l = if k ≤ x then l.getD (x - k) 0 else 0 := by
  intro l
  induction l with
  | nil => intro k; simp [dotR]
  | cons m l ih =>
    intro k
    rw [dotR, ih]
    by_cases e : k = x
    · subst e; simp; omega
    · rw [if_neg e]
      by_cases h : k ≤ x
      · rw [if_pos h, if_pos (by omega), show x - k = (x - (k + 1)) + 1 by omega, List.getD_cons_succ]; omega
      · rw [if_neg h, if_neg (by omega)]; omega
theorem wts_vis {a : GAuto} (ha : autoOk a = true) {xs : List GRule} {ls : List Int} (hl : lens xs = some ls) (x : Nat) :
    Wts xs (mapsOf a.next xs) a.next.length (fun r s => visV a.next x s (W1 xs r)) (fun y => if y = x then 1 else 0) := by
  refine ⟨fun r s hr hs hp => ?_, fun r s hr hs hp => ?_⟩
  · obtain ⟨q1, q2, q3, q4, _⟩ := lens_pair hl hr hp
    show visV a.next x s (W1 xs r) = _
    rw [W1_pair hl hr hp, visV_app, stepM_word ha hl _ s (by omega) hs]
  · show visV a.next x s (W1 xs r) = _
    rw [stepM_word ha hl r s hr hs, W1_let hp]
    have hsz := isLet_size (lens_isLet hl hr hp)
    have hL : (getR xs r).letter.data.toList.length = 1 := by rw [Array.length_toList]; exact hsz
    generalize (getR xs r).letter.data.toList = L at hL ⊢
    match L, hL with
    | [c], _ =>
      by_cases g : stepW a.next s (c.toNat - 97) = x
      · simp [visV, readW, g]
      · simp [visV, readW, g]
theorem wts_len {a : GAuto} {xs : List GRule} {ls : List Int} (hl : lens xs = some ls) :
    Wts xs (mapsOf a.next xs) a.next.length (fun r _ => (W1 xs r).length) (fun _ => 1) := by
  refine ⟨fun r s hr hs hp => ?_, fun r s hr hs hp => ?_⟩
  · show (W1 xs r).length = _
    rw [W1_pair hl hr hp, List.length_append]
  · show (W1 xs r).length = _
    rw [W1_let hp, Array.length_toList]; exact isLet_size (lens_isLet hl hr hp)
def visOut (a : GAuto) (xs : List GRule) (ls : List Int) (j : Int) : List Nat :=
  (visAll xs (mapsOf a.next xs) a.next.length xs.length (visPut (mapsOf a.next xs) (piecesL xs ls 0 j) (List.replicate xs.length (List.replicate a.next.length 0)) a.start.toNat, List.replicate a.next.length 0)).2
theorem visOut_word {a : GAuto} (ha : autoOk a = true) (h0 : a.start.toNat < a.next.length) {xs : List GRule} {ls : List Int} (hl : lens xs = some ls) {j : Int} (hp : ∀ r ∈ piecesL xs ls 0 j, r < xs.length) :
    (visOut a xs ls j).length = a.next.length ∧ ∀ x, (visOut a xs ls j).getD x 0 = visV a.next x a.start.toNat (cutL (wordG xs) 0 j) := by
  have hok := mapsOf_ok ha hl xs.length (Nat.le_refl _)
  rw [List.take_length] at hok
  have hm := mapsOf_len a.next xs
  have hR : RowsN a.next.length (List.replicate xs.length (List.replicate a.next.length 0)) := fun t ht => by
    rw [List.length_replicate] at ht
    rw [List.getD_eq_getElem?_getD, List.getElem?_replicate_of_lt ht]; simp
  have key : ∀ x, VisS xs a.next.length (visAll xs (mapsOf a.next xs) a.next.length xs.length (visPut (mapsOf a.next xs) (piecesL xs ls 0 j) (List.replicate xs.length (List.replicate a.next.length 0)) a.start.toNat, List.replicate a.next.length 0)) ∧
      (visOut a xs ls j).getD x 0 = visV a.next x a.start.toNat (cutL (wordG xs) 0 j) := by
    intro x
    obtain ⟨g1, g2, t, g3, g4⟩ := visPut_pot (xs := xs) (fun r s => visV a.next x s (W1 xs r)) hok hm (piecesL xs ls 0 j) (List.replicate xs.length (List.replicate a.next.length 0)) a.start.toNat hp (by simp) hR h0
    obtain ⟨k1, k2⟩ := visAll_pot hl (wts_vis ha hl x) hok hm xs.length (visPut (mapsOf a.next xs) (piecesL xs ls 0 j) (List.replicate xs.length (List.replicate a.next.length 0)) a.start.toNat, List.replicate a.next.length 0) (Nat.le_refl _) ⟨g2, g1, by simp⟩
    refine ⟨k2, ?_⟩
    rw [dotR_ind, if_pos (Nat.zero_le _), Nat.sub_zero] at k1
    unfold visOut
    rw [k1]
    unfold pot
    simp only []
    rw [g3, dotM_zero _ _ _ _ (Nat.le_refl _), dotR_zero, g4 (fun s L => visV a.next x s (L.flatMap (W1 xs))) (fun s => rfl) (fun s r L hr hs => by
      show visV a.next x s ((r :: L).flatMap (W1 xs)) = _
      rw [List.flatMap_cons, visV_app, stepM_word ha hl r s hr hs]), pieces_word hl]
    omega
  exact ⟨(key 0).1.out, fun x => (key x).2⟩
theorem vis_bound {a : GAuto} {xs : List GRule} {ls : List Int} (hl : lens xs = some ls) {st : List (List Nat) × List Nat} (hS : VisS xs a.next.length st) {k s r : Nat} (hk : k ≤ xs.length) (hr : r < k) (hs : s < a.next.length) :
    (st.1.getD r []).getD s 0 ≤ pot (fun r _ => (W1 xs r).length) (fun _ => 1) st k := by
  have h1 := dotM_le (fun r _ => (W1 xs r).length) st.1 (r := r) (s := s) (by rw [hS.rows r (by rw [hS.len]; omega)]; exact hs) k hr
  have h2 : 1 ≤ (W1 xs r).length := by
    have e1 := W1_len hl r (by omega)
    have e2 := (lens_pos' hl (r := r) (by omega)).1
    omega
  have h3 : (st.1.getD r []).getD s 0 * 1 ≤ (st.1.getD r []).getD s 0 * (W1 xs r).length := Nat.mul_le_mul (Nat.le_refl _) h2
  unfold pot; omega
def nowA (next : List (List Int)) (s : Nat) (w : List UInt8) (n : Nat) : Nat := readW next s (w.take n)
theorem nowA_zero (next : List (List Int)) (s : Nat) (w : List UInt8) : nowA next s w 0 = s := rfl
theorem nowA_succ (next : List (List Int)) (s : Nat) {w : List UInt8} {n : Nat} (h : n < w.length) : nowA next s w (n + 1) = stepW next (nowA next s w n) ((w.getD n 0).toNat - 97) := by
  unfold nowA
  rw [List.take_add_one, List.getElem?_eq_getElem h, Option.toList_some, readW_app, List.getD_eq_getElem?_getD, List.getElem?_eq_getElem h]; rfl
theorem visV_succ (next : List (List Int)) (x s : Nat) {w : List UInt8} {n : Nat} (h : n < w.length) : visV next x s (w.take (n + 1)) = visV next x s (w.take n) + if nowA next s w (n + 1) = x then 1 else 0 := by
  rw [nowA_succ next s h, List.take_add_one, List.getElem?_eq_getElem h, Option.toList_some, visV_app, List.getD_eq_getElem?_getD, List.getElem?_eq_getElem h]
  rfl
theorem visV_mono (next : List (List Int)) (x s : Nat) (w : List UInt8) : ∀ (d n : Nat), visV next x s (w.take n) ≤ visV next x s (w.take (n + d)) := by
  intro d
  induction d with
  | zero => intro n; exact Nat.le_refl _
  | succ d ih =>
    intro n
    refine Nat.le_trans (ih n) ?_
    by_cases h : n + d < w.length
    · rw [show n + (d + 1) = n + d + 1 by omega, visV_succ next x s h]; omega
    · rw [List.take_of_length_le (l := w) (i := n + d) (by omega), List.take_of_length_le (l := w) (i := n + (d + 1)) (by omega)]; exact Nat.le_refl _
theorem vis_met (next : List (List Int)) (x s : Nat) (w : List UInt8) : ∀ n, n ≤ w.length → (1 ≤ visV next x s (w.take n) ↔ ∃ k, 1 ≤ k ∧ k ≤ n ∧ nowA next s w k = x) := by
  intro n
  induction n with
  | zero => intro _; constructor
            · intro h; simp [visV] at h
            · rintro ⟨k, h1, h2, _⟩; omega
  | succ n ih =>
    intro h
    rw [visV_succ next x s (by omega)]
    have i := ih (by omega)
    constructor
    · intro g
      by_cases e : nowA next s w (n + 1) = x
      · exact ⟨n + 1, by omega, Nat.le_refl _, e⟩
      · rw [if_neg e] at g
        obtain ⟨k, k1, k2, k3⟩ := i.1 (by omega)
        exact ⟨k, k1, by omega, k3⟩
    · rintro ⟨k, k1, k2, k3⟩
      by_cases e : k = n + 1
      · subst e; rw [if_pos k3]; omega
      · have := i.2 ⟨k, k1, by omega, k3⟩; omega
def accA (next : List (List Int)) (F : List Nat) (s : Nat) (w : List UInt8) : Nat → Nat
  | 0 => if s ∈ F then 1 else 0
  | n + 1 => accA next F s w n + if nowA next s w (n + 1) ∈ F then 1 else 0
theorem sum_ind (t : Nat) : ∀ (F : List Nat), F.Nodup → (F.map (fun x => if t = x then 1 else 0)).sum = if t ∈ F then 1 else 0 := by
  intro F
  induction F with
  | nil => intro _; simp
  | cons y F ih =>
    intro h
    rw [List.nodup_cons] at h
    rw [List.map_cons, List.sum_cons, ih h.2]
    by_cases e : t = y
    · subst e; rw [if_pos rfl, if_neg h.1, if_pos (by simp)]
    · rw [if_neg e, Nat.zero_add]
      by_cases g : t ∈ F
      · rw [if_pos g, if_pos (by simp [g])]
      · rw [if_neg g, if_neg (by simp [e, g])]
theorem sum_add {α : Type} (f g : α → Nat) : ∀ (F : List α), (F.map (fun x => f x + g x)).sum = (F.map f).sum + (F.map g).sum := by
  intro F
  induction F with
  | nil => rfl
  | cons y F ih => rw [List.map_cons, List.sum_cons, ih, List.map_cons, List.sum_cons, List.map_cons, List.sum_cons]; omega
theorem acc_sum (next : List (List Int)) (F : List Nat) (hF : F.Nodup) (s : Nat) (w : List UInt8) : ∀ n, n ≤ w.length → (F.map (fun x => visV next x s (w.take n))).sum + (if s ∈ F then 1 else 0) = accA next F s w n := by
  intro n
  induction n with
  | zero =>
    intro _
    suffices H : ∀ (G : List Nat), (G.map (fun x => visV next x s (w.take 0))).sum = 0 by rw [H F, accA]; omega
    intro G
    induction G with
    | nil => rfl
    | cons y G ih => rw [List.map_cons, List.sum_cons, ih]; rfl
  | succ n ih =>
    intro h
    have e : (F.map (fun x => visV next x s (w.take (n + 1)))) = F.map (fun x => visV next x s (w.take n) + (fun x => if nowA next s w (n + 1) = x then 1 else 0) x) := by
      congr 1; funext x; exact visV_succ next x s (by omega)
    rw [e, sum_add, sum_ind _ F hF, accA, ← ih (by omega)]; omega
def firstA (next : List (List Int)) (s x : Nat) (w : List UInt8) : Nat → Int
  | 0 => if s = x then 0 else -1
  | n + 1 => if firstA next s x w n < 0 ∧ nowA next s w (n + 1) = x then ((n + 1 : Nat) : Int) else firstA next s x w n
theorem firstA_spec (next : List (List Int)) (s x : Nat) (w : List UInt8) : ∀ n, (firstA next s x w n = -1 ∧ ∀ k, k ≤ n → nowA next s w k ≠ x) ∨ ∃ m : Nat, firstA next s x w n = m ∧ m ≤ n ∧ nowA next s w m = x ∧ ∀ k, k < m → nowA next s w k ≠ x := by
  intro n
  induction n with
  | zero =>
    rw [firstA]
    by_cases e : s = x
    · rw [if_pos e]; exact Or.inr ⟨0, rfl, Nat.le_refl _, e, fun k hk => absurd hk (by omega)⟩
    · rw [if_neg e]; exact Or.inl ⟨rfl, fun k hk => by rw [show k = 0 by omega]; exact e⟩
  | succ n ih =>
    rw [firstA]
    rcases ih with ⟨h1, h2⟩ | ⟨m, h1, h2, h3, h4⟩
    · rw [h1]
      by_cases e : nowA next s w (n + 1) = x
      · rw [if_pos ⟨by omega, e⟩]
        exact Or.inr ⟨n + 1, rfl, Nat.le_refl _, e, fun k hk => h2 k (by omega)⟩
      · rw [if_neg (fun g => e g.2)]
        refine Or.inl ⟨rfl, fun k hk => ?_⟩
        by_cases g : k = n + 1
        · subst g; exact e
        · exact h2 k (by omega)
    · rw [h1, if_neg (fun g => by omega)]
      exact Or.inr ⟨m, rfl, by omega, h3, h4⟩
def leastB (of : Nat → Nat) (c : Nat) : Nat → Nat → Nat → Nat
  | 0, low, _ => low
  | f + 1, low, high => if low < high then (if c ≤ of ((low + high) / 2) then leastB of c f low ((low + high) / 2) else leastB of c f ((low + high) / 2 + 1) high) else low
theorem leastB_spec (of : Nat → Nat) (c : Nat) (hm : ∀ i j, i ≤ j → of i ≤ of j) : ∀ (f low high : Nat), high - low ≤ f → low ≤ high → c ≤ of high → (∀ k, k < low → of k < c) →
    c ≤ of (leastB of c f low high) ∧ leastB of c f low high ≤ high ∧ ∀ k, k < leastB of c f low high → of k < c := by
  intro f
  induction f with
  | zero => intro low high h1 h2 h3 h4; rw [leastB, show low = high by omega]; exact ⟨h3, Nat.le_refl _, fun k hk => h4 k (by omega)⟩
  | succ f ih =>
    intro low high h1 h2 h3 h4
    rw [leastB]
    by_cases g : low < high
    · rw [if_pos g]
      by_cases e : c ≤ of ((low + high) / 2)
      · rw [if_pos e]
        obtain ⟨g1, g2, g3⟩ := ih low ((low + high) / 2) (by omega) (by omega) e h4
        exact ⟨g1, by omega, g3⟩
      · rw [if_neg e]
        refine ih ((low + high) / 2 + 1) high (by omega) (by omega) h3 fun k hk => ?_
        have := hm k ((low + high) / 2) (by omega); omega
    · rw [if_neg g, show low = high by omega]; exact ⟨h3, Nat.le_refl _, fun k hk => h4 k (by omega)⟩
theorem first_least (next : List (List Int)) (s x : Nat) (w : List UInt8) (hx : s ≠ x) (f : Nat) (hf : w.length ≤ f) :
    (visV next x s (w.take w.length) < 1 → firstA next s x w w.length = -1) ∧ (1 ≤ visV next x s (w.take w.length) → firstA next s x w w.length = (leastB (fun j => visV next x s (w.take j)) 1 f 0 w.length : Nat)) := by
  have hme := vis_met next x s w
  refine ⟨fun h => ?_, fun h => ?_⟩
  · rcases firstA_spec next s x w w.length with ⟨h1, _⟩ | ⟨m, h1, h2, h3, _⟩
    · exact h1
    · have m0 : m ≠ 0 := fun e => by subst e; exact hx h3
      have := (hme w.length (Nat.le_refl _)).2 ⟨m, by omega, h2, h3⟩
      omega
  · have hmono : ∀ i j, i ≤ j → visV next x s (w.take i) ≤ visV next x s (w.take j) := fun i j hij => by
      have := visV_mono next x s w (j - i) i
      rw [show i + (j - i) = j by omega] at this; exact this
    obtain ⟨g1, g2, g3⟩ := leastB_spec (fun j => visV next x s (w.take j)) 1 hmono f 0 w.length (by omega) (by omega) h (fun k hk => absurd hk (by omega))
    generalize leastB (fun j => visV next x s (w.take j)) 1 f 0 w.length = m' at g1 g2 g3 ⊢
    obtain ⟨k, k1, k2, k3⟩ := (hme m' g2).1 g1
    rcases firstA_spec next s x w w.length with ⟨h1, h2⟩ | ⟨m, h1, h2, h3, h4⟩
    · exact absurd k3 (h2 k (by omega))
    · rw [h1]
      have m0 : m ≠ 0 := fun e => by subst e; exact hx h3
      have a1 : m ≤ k := by
        rcases Nat.lt_or_ge k m with g | g
        · exact absurd k3 (h4 k g)
        · exact g
      have a2 : ¬ m < m' := fun g => by
        have b1 := g3 m g
        have b2 := (hme m h2).2 ⟨m, by omega, Nat.le_refl _, h3⟩
        exact absurd b2 (Nat.not_le_of_lt b1)
      omega
def behind (a m : Int) : Int := if m < 0 then -1 else a + m
theorem readW_lt {a : GAuto} (ha : autoOk a = true) : ∀ (w : List UInt8) (s : Nat), (∀ c ∈ w, 97 ≤ c.toNat ∧ c.toNat ≤ 100) → s < a.next.length → readW a.next s w < a.next.length := by
  intro w
  induction w with
  | nil => intro s _ h; exact h
  | cons c w ih =>
    intro s h hs
    have h1 := h c (by simp)
    exact ih _ (fun x hx => h x (by simp [hx])) (stepW_lt ha hs (by omega))
open Go.RowKit
theorem step_push_rule {W : World} {ops : Array Oper} {o : Oper} {a : Act} {K : Act → World → Prop} {Q : Exit → Act → World → Prop} {E : Prop} (hgd : o.guard = none) (s x : Operand)
    (ho : o.op = .call { callee := .builtin .append, args := #[s, x], argTypes := #[29, 29] }) {t : ByteArray} {p q : Int} {base : Nat} {v : Value} {l : List GRule}
    (hs : a.eval s = v) {N : Nat} (hx : a.eval x = .slice (some ⟨N, 0, none⟩) 1 1) (hN : N = W.heap.size) (hown : OwnRules W base v l) (hlen : l.length ≤ 1099511627775) (hbase : base ≤ W.heap.size)
    (h : ∀ v' w', OwnRules w' base v' (l ++ [⟨t, p, q⟩]) → (W.alloc (.cells #[.string t, .int .i64 p, .int .i64 q] 138)).grownBy w' v.ownBlock → Below base (W.alloc (.cells #[.string t, .int .i64 p, .int .i64 q] 138)) w' → K (a.put o.dst v') w') :
    if Region.wanted o (yielded ops a.tmps) = true then Oper.wp Try.prog o a (W.alloc (.cells #[.string t, .int .i64 p, .int .i64 q] 138)) K Q else E := by
  subst hN
  refine step_append_rules (ys := [⟨t, p, q⟩]) (S := fun b => b = W.heap.size) hgd s x ho hs hx (hown.alloc _) ⟨_, 1, rfl, Nat.le_refl _, by simp [maxLen], fun _ => ⟨W.heap.size, 0, rfl, rfl, fun k r hk => ⟨r.cells, rfl, fun j u hu => ?_⟩⟩⟩ (by simp; omega) (by simp; omega) h
  have hk0 : k = 0 := by
    have := (List.getElem?_eq_some_iff.1 hk).1
    simp at this; exact this
  subst hk0
  simp at hk
  subst hk
  have hc : (W.alloc (.cells #[.string t, .int .i64 p, .int .i64 q] 138)).cell? ⟨W.heap.size, j, none⟩ = (#[Value.string t, .int .i64 p, .int .i64 q] : Array Value)[j]? := cell_of_row _ _ _ _ 138 (0, 0) (heap_alloc_new W _)
  simp only [Nat.zero_mul, Nat.zero_add]
  rw [hc]
  simpa [GRule.cells] using hu
theorem Boxed.mk' {w : World} {B : Nat} {t : TypeId} {v : Value} (h : w.heap[B]? = some (.cells #[v] t (0, 0))) : Boxed w.drew B t v := h
theorem Boxed.up {w w' : World} {B N : Nat} {t : TypeId} {v : Value} (h : Boxed w B t v) (hb : Below N w w') (hlt : B < N) : Boxed w' B t v := (hb.block B hlt).trans h
theorem Boxed.grown {w w' : World} {B base e s n : Nat} {t : TypeId} {v : Value} {xs : List Value} {o : Obj} (h : Boxed w B t v) (hte : t ≠ e) (own : w.ownsRow base e s v n xs) (hg : (w.alloc o).grownBy w' v.ownBlock) : Boxed w' B t v := (h.alloc o).kept hg (h.not_row hte own)
section
variable {α : Type} {E : Enc α} {w w1 w2 : World} {o : Obj} {v : Value} {xs : List α}
end
theorem drewB {w : World} : Below w.heap.size w w.drew := Below.drew (Below.refl _ _)
set_option maxRecDepth 100000 in
theorem Index_any (v : Value) (xs : List Int) (n : Int) (w : World) (h : Sl IntE w w.heap.size v xs) :
    Calls Try.prog 128 #[v, .int .i64 n] w fun e w' => e = .returned (.int .i64 (idxOf (fun x => n == x) xs)) ∧ ∃ k, w' = w.drewN k := by
  obtain ⟨A, c, rfl, hc, hm, hrow⟩ := h
  unfold maxLen at hm
  go_enter Try.func128, Try.ntmps128
  go_wp2_with fail
  go_loopw [8] (fun i wr => ∃ k : Nat, k ≤ xs.length ∧ i = .int .i64 k ∧ (∃ m, wr = w.drewN m) ∧ ∀ (j : Nat) y, j < k → xs[j]? = some y → (n == y) = false) (fun i _ => xs.length - (intOf i).toNat)
  case atStart => exact ⟨0, Nat.zero_le _, rfl, ⟨0, rfl⟩, fun j y hj => absurd hj (by omega)⟩
  case round =>
    obtain ⟨k, hk, rfl, ⟨m, rfl⟩, hno⟩ := hrel
    have Hno := Lib.hid hno
    clear hno
    by_cases hlt : k < xs.length
    · obtain ⟨b, o, rfl, hbl, hcell⟩ := hrow.int hlt
      obtain ⟨x, hx⟩ : ∃ x, xs[k]? = some x := ⟨_, List.getElem?_eq_getElem hlt⟩
      have hc0 : w.cell? ⟨b, o + k, none⟩ = some (.int .i64 x) := by rw [hcell k hlt, List.getD_eq_getElem?_getD, hx]; rfl
      have Hx := Lib.hid hx
      clear hcell hx
      by_cases hp : (n == x) = true
      · have Hp := Lib.hid hp
        go_wp2
        go_ret
        exact ⟨ret_int (by rw [idxOf_some Hno.out Hx.out Hp.out]), _, rfl⟩
      · have hp2 : (n == x) = false := by simpa using hp
        have Hp := Lib.hid hp2
        clear hp
        go_wp2
        go_roundw
        case rel =>
          refine ⟨k + 1, by omega, by go_num, ⟨_, rfl⟩, fun j y hj hy => ?_⟩
          by_cases e : j = k
          · subst e
            have := Hx.out
            rw [hy] at this
            injection this with this
            rw [this]; exact Hp.out
          · exact Hno.out j y (by omega) hy
        case measure => simp [intOf]; omega
    · go_wp2
      go_ret
      exact ⟨ret_int (by
        rw [idxOf_none]
        intro x hx
        obtain ⟨j, hj, rfl⟩ := List.getElem_of_mem hx
        exact Hno.out j _ (by omega) (List.getElem?_eq_getElem hj)), _, rfl⟩
def hasB (xs : List Int) (n : Int) : Bool := xs.any (fun x => n == x)
theorem Contains_any (v : Value) (xs : List Int) (n : Int) (w : World) (h : Sl IntE w w.heap.size v xs) :
    Calls Try.prog 92 #[v, .int .i64 n] w fun e w' => e = .returned (.bool (hasB xs n)) ∧ ∃ k, w' = w.drewN k := by
  have H := Lib.hid h
  obtain ⟨A, c, rfl, _⟩ := h
  go_enter Try.func92, Try.ntmps92
  go_wp2_with fail
  refine (Index_any _ xs n _ H.out).mono ?_
  rintro e w2 ⟨rfl, k, rfl⟩
  go_wp2
  go_ret
  exact ⟨ret_bool (idxOf_any _ xs), _, rfl⟩
theorem autoOk_start {a : GAuto} (h : autoOk a = true) : 0 ≤ a.start ∧ a.start < a.next.length := by
  have h1 := (autoOk_get h).2.2.1
  unfold autoOk at h
  simp only [Bool.and_eq_true] at h
  have h2 := h.1.1.2
  simp only [inR, Bool.and_eq_true, decide_eq_true_eq] at h2
  omega
theorem after_anyI (v : Value) (a : GAuto) (xs : List GRule) (ls : List Int) (s : Nat) (q i j : Int) (w : World) (hq : q = (s : Int)) (h : RideV w w.heap.size v a xs ls) (ha : autoOk a = true) (hl : lens xs = some ls) (hn : xs.length ≤ 1099511627776) (hs : s < a.next.length) :
    Calls Try.prog 84 #[v, .int .i64 q, .int .i64 i, .int .i64 j] w fun e w' => e = .returned (.int .i64 (((piecesL xs ls i j).foldl (stepM (mapsOf a.next xs)) s : Nat) : Int)) ∧ Below w.heap.size w w' := by
  subst hq; exact after_any v a xs ls s i j w h ha hl hn hs
def aftR (xs : List GRule) (ls : List Int) : Nat → Nat → Int → List Nat
  | 0, _, _ => []
  | f + 1, r, n => if n ≤ 0 then [] else if n = ls.getD r 0 then [r] else
      if ls.getD (getR xs r).left.toNat 0 ≤ n then (getR xs r).left.toNat :: aftR xs ls f (getR xs r).right.toNat (n - ls.getD (getR xs r).left.toNat 0) else aftR xs ls f (getR xs r).left.toNat n
theorem aftR_done (xs : List GRule) (ls : List Int) (f r : Nat) {n : Int} (h : n ≤ 0) : aftR xs ls f r n = [] := by
  cases f with
  | zero => rfl
  | succ f => rw [aftR, if_pos h]
theorem coverR_out (xs : List GRule) (ls : List Int) (i : Int) (f r : Nat) {j p : Int} (h : j ≤ p) : coverR xs ls i j f r p = [] := by
  cases f with
  | zero => rfl
  | succ f => rw [coverR, if_pos (Or.inr h)]
theorem cover_aft {xs : List GRule} {ls : List Int} (hl : lens xs = some ls) : ∀ (f r : Nat) (p n : Int), r < f → r < xs.length → 0 ≤ p → n ≤ ls.getD r 0 → coverR xs ls 0 (p + n) f r p = aftR xs ls f r n := by
  intro f
  induction f with
  | zero => intro r p n hr; omega
  | succ f ih =>
    intro r p n hr hx hp hn
    have h1 := lens_pos' hl hx
    by_cases c1 : n ≤ 0
    · rw [aftR_done _ _ _ _ c1, coverR_out _ _ _ _ _ (by omega)]
    rw [coverR, aftR, if_neg (by omega), if_neg c1]
    by_cases c2 : n = ls.getD r 0
    · rw [if_pos ⟨hp, by omega⟩, if_pos c2]
    rw [if_neg (by omega), if_neg c2]
    cases hpair : (getR xs r).pair with
    | false => have := lens_letter hl hx hpair; omega
    | true =>
      obtain ⟨q1, q2, q3, q4, q5⟩ := lens_pair hl hx hpair
      have hL := lens_pos' hl (r := (getR xs r).left.toNat) (by omega)
      by_cases c3 : ls.getD (getR xs r).left.toNat 0 ≤ n
      · rw [if_pos c3]
        obtain ⟨g, rfl⟩ : ∃ g, f = g + 1 := ⟨f - 1, by omega⟩
        have e1 : coverR xs ls 0 (p + n) (g + 1) (getR xs r).left.toNat p = [(getR xs r).left.toNat] := by
          rw [coverR, if_neg (by omega), if_pos ⟨hp, by omega⟩]
        have e2 := ih (getR xs r).right.toNat (p + ls.getD (getR xs r).left.toNat 0) (n - ls.getD (getR xs r).left.toNat 0) (by omega) (by omega) (by omega) (by omega)
        rw [show p + ls.getD (getR xs r).left.toNat 0 + (n - ls.getD (getR xs r).left.toNat 0) = p + n by omega] at e2
        rw [e1, e2]; rfl
      · rw [if_neg c3, ih _ _ _ (by omega) (by omega) hp (by omega), coverR_out _ _ _ _ _ (by omega), List.append_nil]
theorem pieces_aft {xs : List GRule} {ls : List Int} (hl : lens xs = some ls) {n : Int} (hn : n ≤ lastI ls) (h0 : 0 < xs.length) : piecesL xs ls 0 n = aftR xs ls xs.length (xs.length - 1) n := by
  have hll := lens_length hl
  have e : lastI ls = ls.getD (xs.length - 1) 0 := by rw [lastI, hll]
  have := cover_aft hl xs.length (xs.length - 1) 0 n (by omega) (by omega) (by omega) (by omega)
  rw [show (0 : Int) + n = n by omega] at this
  rw [← this]
  unfold piecesL
  by_cases hn0 : 0 < n
  · rw [if_pos ⟨h0, hn0⟩]
  · rw [if_neg (by omega), coverR_out _ _ _ _ _ (by omega)]
def gramLen (xs : List GRule) : Int := match lens xs with | some ls => lastI ls | none => 0
theorem gramLen_of {xs : List GRule} {ls : List Int} (h : lens xs = some ls) : gramLen xs = lastI ls := by simp [gramLen, h]
theorem lastI_bounds {xs : List GRule} {ls : List Int} (h : lens xs = some ls) : 0 ≤ lastI ls ∧ lastI ls ≤ 1000000000000000 := by
  have hll := lens_length h
  unfold lastI
  by_cases h0 : xs.length = 0
  · have : ls = [] := List.eq_nil_of_length_eq_zero (by omega)
    subst this; simp
  · have := lens_pos' h (r := ls.length - 1) (by omega)
    omega
set_option maxRecDepth 100000 in
theorem l02Length_any (b o : Nat) (v : Value) (xs : List GRule) (ls : List Int) (w : World) (hl : lens xs = some ls) (hp : w.cell? ⟨b, o, none⟩ = some v) (hbl : b < w.heap.size) (h : Sl RuleE w w.heap.size v xs) (hsm : SmallL xs) (hn : xs.length ≤ 1099511627776) :
    Calls Try.prog 49 #[.pointer (some ⟨b, o, none⟩)] w fun e w' => e = .returned (.int .i64 (lastI ls)) ∧ Below w.heap.size w w' := by
  have Hsl := Lib.hid h
  have Hl := Lib.hid hl
  clear h hl
  go_enter Try.func49, Try.ntmps49
  go_wp2_with fail
  refine (l02Sizes_any _ _ _ _ _ hp hbl Hsl.out hsm hn).mono ?_
  rintro e w1 ⟨hb, (⟨ls', v1, h1, rfl, h2⟩ | ⟨h1, _⟩)⟩
  · have e1 : ls' = ls := by rw [Hl.out] at h1; injection h1 with h1; exact h1.symm
    subst e1
    have HB := Lib.hid hb
    have hsl := h2.sl
    obtain ⟨A, c, rfl, hc, hm, hrow⟩ := hsl
    unfold maxLen at hm
    clear h1 h2 hb
    by_cases h0 : ls'.length = 0
    · have hl : ls' = [] := List.eq_nil_of_length_eq_zero h0
      subst hl
      clear hrow
      go_wp2_with fail
      go_ret
      exact ⟨rfl, HB.out⟩
    · obtain ⟨b, o, rfl, hbl, hcell⟩ := hrow.int (k := 0) (by omega)
      have hc0 := hcell (ls'.length - 1) (by omega)
      have g0 : ((ls'.length : Int) == 0) = false := by rw [beq_eq_false_iff_ne]; omega
      have hk : ((ls'.length : Int) - 1).toNat = ls'.length - 1 := by omega
      have hl : 0 ≤ (ls'.length : Int) - 1 := by omega
      have hwr : IntKind.i64.wrap ((ls'.length : Int) - 1) = (ls'.length : Int) - 1 := IntWalk.i64_in _ (by omega)
      obtain ⟨x, hx⟩ : ∃ x, ls'.getD (ls'.length - 1) 0 = x := ⟨_, rfl⟩
      have Hx := Lib.hid hx
      rw [hx] at hc0
      clear hcell hx hrow
      go_wp2_with fail
      go_ret
      exact ⟨ret_int (by rw [lastI, Hx.out]), HB.out⟩
  · rw [Hl.out] at h1; cases h1
def saC (a : GAuto) (n : Int) (xs : List GRule) : Int := if autoOk a && gramOk xs then if inR n 0 (gramLen xs) then 0 else 2 else 1
def saV (a : GAuto) (n : Int) (xs : List GRule) : Int := if saC a n xs = 0 then ((aftR xs ((lens xs).getD []) xs.length (xs.length - 1) n).foldl (stepM (mapsOf a.next xs)) a.start.toNat : Nat) else 0
theorem aft_pieces {xs : List GRule} {ls : List Int} (hl : lens xs = some ls) {n : Int} (hn : n ≤ lastI ls) : piecesL xs ls 0 n = aftR xs ls xs.length (xs.length - 1) n := by
  by_cases hx : 0 < xs.length
  · exact pieces_aft hl hn hx
  · have e : xs.length = 0 := by omega
    rw [e, aftR, piecesL, if_neg (by omega)]
set_option maxRecDepth 100000 in
set_option maxHeartbeats 2000000 in
theorem implStateAfter_any (v vR : Value) (a : GAuto) (n : Int) (xs : List GRule) (w : World) (h : AutoV w w.heap.size v a) (hR : Sl RuleE w w.heap.size vR xs) (hn : xs.length ≤ 1099511627776) :
    Calls Try.prog 25 #[v, .agg #[vR], .int .i64 n] w fun e w' => e = .returned (.tuple #[.int .i64 (saV a n xs), .int .i64 (saC a n xs)]) ∧ Below w.heap.size w w' := by
  have hB := fun o o' => ((Below.refl w.heap.size w).alloc (Nat.le_refl _) o).alloc (by simp) o'
  have HB := Lib.hid hB
  have HA := Lib.hid h
  have HR := Lib.hid hR
  clear hB
  obtain ⟨vF, vN, rfl, hF, hN⟩ := h
  have HF := Lib.hid hF
  obtain ⟨AF, cF, rfl, _⟩ := hF
  obtain ⟨AN, cN, rfl, _⟩ := hN
  obtain ⟨AR, cR, rfl, _⟩ := hR
  go_enter Try.func25, Try.ntmps25
  go_wp2_with fail
  refine (newRide_any _ _ a xs _ ((HA.out.below (HB.out _ _)).le (by first | omega | (simp; done) | (simp; omega))) ((HR.out.below (HB.out _ _)).le (by first | omega | (simp; done) | (simp; omega))) hn).mono ?_
  rintro e w1 ⟨hb1, hpost⟩
  have z1 : w.heap.size + 1 < w1.heap.size := Nat.lt_of_lt_of_le (by simp) hb1.size
  have A1 := Lib.hid (Box4.up (w := (w.alloc (Obj.cells #[.int .i64 a.states, .int .i64 a.start, .slice AF a.finals.length cF, .slice AN a.next.length cN] 45)).alloc (Obj.cells #[.slice AR xs.length cR] 31)) (b := w.heap.size) (c0 := .int .i64 a.states) (c1 := .int .i64 a.start) (c2 := .slice AF a.finals.length cF) (c3 := .slice AN a.next.length cN) ⟨by simp [go_sem], by simp [go_sem], by simp [go_sem], by simp [go_sem]⟩ hb1 (by simp; omega))
  have B1 := Lib.hid ((HB.out _ _).trans (hb1.mono (by simp; omega)))
  clear hb1
  rcases hpost with ⟨ls, vr, hl, hg, ha, rfl, hr⟩ | ⟨hno, rfl⟩
  · have Hl := Lib.hid hl
    have Hg := Lib.hid hg
    have Ha := Lib.hid ha
    obtain ⟨p0, p1⟩ := autoOk_start ha
    have et : a.start = (a.start.toNat : Int) := by omega
    have Et := Lib.hid et
    have ht : a.start.toNat < a.next.length := by omega
    have z0 : w.heap.size < w1.heap.size := by omega
    have Hr := Lib.hid hr
    obtain ⟨uF, uN, uR, uL, uM, rfl, k1, k2, k3, k4, k5⟩ := hr
    obtain ⟨B0, e0, rfl, _⟩ := k1
    obtain ⟨B1', e1, rfl, _⟩ := k2
    obtain ⟨B2', e2, rfl, _⟩ := k3
    obtain ⟨B3, e3, rfl, _⟩ := k4
    obtain ⟨B4, e4, rfl, _⟩ := k5
    clear hl hg ha et p0 p1
    have b12 := (Below.refl w1.heap.size w1).alloc (Nat.le_refl _) (Obj.cells #[.int .i64 a.states, .int .i64 a.start, .slice B0 a.finals.length e0, .slice B1' a.next.length e1, .slice B2' xs.length e2, .slice B3 ls.length e3, .slice B4 (mapsOf a.next xs).length e4] 94)
    have R2 := Lib.hid (Box7.new (w := w1) (c0 := .int .i64 a.states) (c1 := .int .i64 a.start) (c2 := .slice B0 a.finals.length e0) (c3 := .slice B1' a.next.length e1) (c4 := .slice B2' xs.length e2) (c5 := .slice B3 ls.length e3) (c6 := .slice B4 (mapsOf a.next xs).length e4) (t := 94) (Below.refl _ _))
    have z2 : w1.heap.size < (w1.alloc (Obj.cells #[.int .i64 a.states, .int .i64 a.start, .slice B0 a.finals.length e0, .slice B1' a.next.length e1, .slice B2' xs.length e2, .slice B3 ls.length e3, .slice B4 (mapsOf a.next xs).length e4] 94)).heap.size := by simp
    go_wp2_with fail
    revert b12 R2 z2
    generalize w1.alloc (Obj.cells #[.int .i64 a.states, .int .i64 a.start, .slice B0 a.finals.length e0, .slice B1' a.next.length e1, .slice B2' xs.length e2, .slice B3 ls.length e3, .slice B4 (mapsOf a.next xs).length e4] 94) = w2
    intro b12 R2 z2
    have z20 : w.heap.size < w2.heap.size := by omega
    have Hr2 := Lib.hid (Hr.out.up b12)
    have A2 := Lib.hid (A1.out.up b12 z0)
    have B2 := Lib.hid (B1.out.trans (b12.mono (by omega)))
    clear b12
    refine (rideLength_any _ a xs ls _ Hr2.out).mono ?_
    rintro e w3 ⟨rfl, hb3⟩
    have z3 : w1.heap.size < w3.heap.size := Nat.lt_of_lt_of_le z2 hb3.size
    have z30 : w.heap.size < w3.heap.size := by omega
    have R3 := Lib.hid (R2.out.up hb3 z2)
    have A3 := Lib.hid (A2.out.up hb3 z20)
    have Hr3 := Lib.hid (Hr2.out.up hb3)
    have B3' := Lib.hid (B2.out.trans (hb3.mono (by omega)))
    clear hb3
    by_cases c3 : inR n 0 (lastI ls) = true
    · have C3 := Lib.hid c3
      have hn0 : 0 ≤ n ∧ n ≤ lastI ls := by simpa [inR] using c3
      have Hn := Lib.hid hn0
      clear c3 hn0
      go_wp2_with fail
      refine (within_yes _ _ _ _ C3.out).mono ?_
      rintro e w4 ⟨rfl, rfl⟩
      obtain ⟨r0, r1, r2, r3, r4, r5, r6⟩ := R3.out
      obtain ⟨a0, a1, a2, a3⟩ := A3.out
      go_wp2_with fail
      refine (after_anyI _ a xs ls a.start.toNat _ _ _ _ Et.out Hr3.out Ha.out Hl.out hn ht).mono ?_
      rintro e w4 ⟨rfl, hb4⟩
      have B4' := Lib.hid (B3'.out.trans (hb4.mono (by omega)))
      clear hb4 r0 r1 r2 r3 r4 r5 r6 a0 a1 a2 a3
      go_wp2_with fail
      go_ret2
      have hc : saC a n xs = 0 := by simp [saC, Ha.out, Hg.out, gramLen_of Hl.out, C3.out]
      exact ⟨by rw [aft_pieces Hl.out Hn.out.2, saV, if_pos hc, hc, Hl.out]; rfl, B4'.out⟩
    · have c3' : inR n 0 (lastI ls) = false := by simpa using c3
      have C3 := Lib.hid c3'
      clear c3 c3'
      go_wp2_with fail
      refine (within_no _ _ _ _ C3.out).mono ?_
      rintro e w4 ⟨rfl, rfl⟩
      go_wp2_with fail
      go_ret2
      have hc : saC a n xs = 2 := by simp [saC, Ha.out, Hg.out, gramLen_of Hl.out, C3.out]
      exact ⟨by simp [saV, hc], B3'.out⟩
  · have Hno := Lib.hid hno
    clear hno
    go_wp2_with fail
    go_ret2
    have hc : saC a n xs = 1 := by simp only [saC, Hno.out]; simp
    exact ⟨by simp [saV, hc], (by repeat (first | exact B1.out | (refine Below.alloc ?_ (by first | omega | (simp; done) | (simp; omega)) _) | refine below_drewN ?_ _ | refine Below.drew ?_))⟩
theorem cover_mem {xs : List GRule} {ls : List Int} (hl : lens xs = some ls) {i j : Int} : ∀ (f r : Nat) (p : Int), r < f → r < xs.length → ∀ x ∈ coverR xs ls i j f r p, x < xs.length := by
  intro f
  induction f with
  | zero => intro r p hr; omega
  | succ f ih =>
    intro r p hr hx y hy
    rw [coverR] at hy
    have h1 := lens_pos' hl hx
    split at hy
    · simp at hy
    split at hy
    · simp at hy; omega
    rename_i c1 c2
    cases hpair : (getR xs r).pair with
    | false => have := lens_letter hl hx hpair; omega
    | true =>
      obtain ⟨q1, q2, q3, q4, q5⟩ := lens_pair hl hx hpair
      rcases List.mem_append.1 hy with hy | hy
      · exact ih _ _ (by omega) (by omega) y hy
      · exact ih _ _ (by omega) (by omega) y hy
theorem pieces_mem {xs : List GRule} {ls : List Int} (hl : lens xs = some ls) (i j : Int) : ∀ x ∈ piecesL xs ls i j, x < xs.length := by
  unfold piecesL
  split
  · rename_i h
    exact cover_mem hl xs.length (xs.length - 1) 0 (by omega) (by omega)
  · simp
section
variable {w w' : World} {b : Nat} {ks : List GRule} {r : GRule}
end
end Go.Proofs.Ytejgbfgocaggfaa
