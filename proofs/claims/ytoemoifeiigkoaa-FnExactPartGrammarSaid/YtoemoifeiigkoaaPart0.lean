import Derived.Test.YtoemoifeiigkoaaTrim0
import Derived.Test.YtoemoifeiigkoaaRide2
namespace Go.Proofs.Ytoemoifeiigkoaa

/-- What the reference's cover of a part is. -/
def coverS (xs : List GRule) (ls : List Int) : Nat → Nat → Int → Int → List Nat
  | 0, _, _, _ => []
  | f + 1, r, i, j =>
    if j ≤ i then [] else if i = 0 ∧ j = ls.getD r 0 then [r] else
      coverS xs ls f (getR xs r).left.toNat i (min j (ls.getD (getR xs r).left.toNat 0)) ++ coverS xs ls f (getR xs r).right.toNat (max (i - ls.getD (getR xs r).left.toNat 0) 0) (j - ls.getD (getR xs r).left.toNat 0)
theorem coverS_eq {xs : List GRule} {ls : List Int} (hl : lens xs = some ls) {i j : Int} (hij : i < j) : ∀ (f r : Nat) (p : Int), r < f → r < xs.length →
    coverS xs ls f r (max (i - p) 0) (min (j - p) (ls.getD r 0)) = coverR xs ls i j f r p := by
  intro f
  induction f with
  | zero => intro r p hr; omega
  | succ f ih =>
    intro r p hr hx
    have h1 := lens_pos' hl hx
    rw [coverS, coverR]
    by_cases c1 : p + ls.getD r 0 ≤ i ∨ j ≤ p
    · rw [if_pos c1, if_pos (by omega)]
    rw [if_neg c1, if_neg (by omega)]
    by_cases c2 : i ≤ p ∧ p + ls.getD r 0 ≤ j
    · rw [if_pos c2, if_pos (by omega)]
    rw [if_neg c2, if_neg (by omega)]
    cases hpair : (getR xs r).pair with
    | false => have := lens_letter hl hx hpair; omega
    | true =>
      obtain ⟨q1, q2, q3, q4, q5⟩ := lens_pair hl hx hpair
      have hL := lens_pos' hl (r := (getR xs r).left.toNat) (by omega)
      have hR := lens_pos' hl (r := (getR xs r).right.toNat) (by omega)
      have e1 := ih (getR xs r).left.toNat p (by omega) (by omega)
      have e2 := ih (getR xs r).right.toNat (p + ls.getD (getR xs r).left.toNat 0) (by omega) (by omega)
      rw [← e1, ← e2]
      congr 1
      · congr 1; omega
      · congr 1 <;> omega
theorem pieces_cover {xs : List GRule} {ls : List Int} (hl : lens xs = some ls) {i j : Int} (hi : 0 ≤ i) (hij : i < j) (hj : j ≤ lastI ls) (h0 : 0 < xs.length) : piecesL xs ls i j = coverS xs ls xs.length (xs.length - 1) i j := by
  have hll := lens_length hl
  have e : lastI ls = ls.getD (xs.length - 1) 0 := by rw [lastI, hll]
  have := coverS_eq hl hij xs.length (xs.length - 1) 0 (by omega) (by omega)
  rw [piecesL, if_pos ⟨h0, hij⟩, ← this]
  congr 1 <;> omega
theorem cover_mem {xs : List GRule} {ls : List Int} (hl : lens xs = some ls) {i j : Int} : ∀ (f r : Nat) (p : Int), r < f → r < xs.length → ∀ x ∈ coverR xs ls i j f r p, x < xs.length := by
  intro f
  induction f with
  | zero => intro r p hr; omega
  | succ f ih =>
    intro r p hr hx y hy
    rw [coverR] at hy
    have h1 := lens_pos' hl hx
    split at hy
    · simp at hy
    split at hy
    · simp at hy; omega
    rename_i c1 c2
    cases hpair : (getR xs r).pair with
    | false => have := lens_letter hl hx hpair; omega
    | true =>
      obtain ⟨q1, q2, q3, q4, q5⟩ := lens_pair hl hx hpair
      rcases List.mem_append.1 hy with hy | hy
      · exact ih _ _ (by omega) (by omega) y hy
      · exact ih _ _ (by omega) (by omega) y hy
theorem cover_one {xs : List GRule} {ls : List Int} (hl : lens xs = some ls) {i j : Int} : ∀ (f r : Nat) (p : Int), r < f → r < xs.length → (i ≤ p ∨ p + ls.getD r 0 ≤ j) → (coverR xs ls i j f r p).length ≤ r + 1 := by
  intro f
  induction f with
  | zero => intro r p hr; omega
  | succ f ih =>
    intro r p hr hx ho
    rw [coverR]
    have h1 := lens_pos' hl hx
    split
    · simp
    split
    · simp
    rename_i c1 c2
    cases hpair : (getR xs r).pair with
    | false => have := lens_letter hl hx hpair; omega
    | true =>
      obtain ⟨q1, q2, q3, q4, q5⟩ := lens_pair hl hx hpair
      have hL := lens_pos' hl (r := (getR xs r).left.toNat) (by omega)
      have hR := lens_pos' hl (r := (getR xs r).right.toNat) (by omega)
      obtain ⟨g, rfl⟩ : ∃ g, f = g + 1 := ⟨f - 1, by omega⟩
      rw [List.length_append]
      rcases ho with ho | ho
      · by_cases c3 : p + ls.getD (getR xs r).left.toNat 0 ≤ j
        · have e1 : (coverR xs ls i j (g + 1) (getR xs r).left.toNat p).length = 1 := by rw [coverR, if_neg (by omega), if_pos (by omega)]; rfl
          have e2 := ih (getR xs r).right.toNat (p + ls.getD (getR xs r).left.toNat 0) (by omega) (by omega) (.inl (by omega))
          omega
        · have e2 : (coverR xs ls i j (g + 1) (getR xs r).right.toNat (p + ls.getD (getR xs r).left.toNat 0)).length = 0 := by rw [coverR, if_pos (by omega)]; rfl
          have e1 := ih (getR xs r).left.toNat p (by omega) (by omega) (.inl ho)
          omega
      · by_cases c3 : i ≤ p + ls.getD (getR xs r).left.toNat 0
        · have e2 : (coverR xs ls i j (g + 1) (getR xs r).right.toNat (p + ls.getD (getR xs r).left.toNat 0)).length ≤ 1 := by
            rw [coverR]
            split
            · simp
            rw [if_pos (by omega)]; simp
          have e1 := ih (getR xs r).left.toNat p (by omega) (by omega) (.inr (by omega))
          omega
        · have e1 : (coverR xs ls i j (g + 1) (getR xs r).left.toNat p).length = 0 := by rw [coverR, if_pos (by omega)]; rfl
          have e2 := ih (getR xs r).right.toNat (p + ls.getD (getR xs r).left.toNat 0) (by omega) (by omega) (.inr (by omega))
          omega
theorem cover_two {xs : List GRule} {ls : List Int} (hl : lens xs = some ls) {i j : Int} : ∀ (f r : Nat) (p : Int), r < f → r < xs.length → (coverR xs ls i j f r p).length ≤ 2 * (r + 1) := by
  intro f
  induction f with
  | zero => intro r p hr; omega
  | succ f ih =>
    intro r p hr hx
    rw [coverR]
    have h1 := lens_pos' hl hx
    split
    · simp
    split
    · simp; omega
    rename_i c1 c2
    cases hpair : (getR xs r).pair with
    | false => have := lens_letter hl hx hpair; omega
    | true =>
      obtain ⟨q1, q2, q3, q4, q5⟩ := lens_pair hl hx hpair
      have hL := lens_pos' hl (r := (getR xs r).left.toNat) (by omega)
      have hR := lens_pos' hl (r := (getR xs r).right.toNat) (by omega)
      obtain ⟨g, rfl⟩ : ∃ g, f = g + 1 := ⟨f - 1, by omega⟩
      rw [List.length_append]
      by_cases c3 : j ≤ p + ls.getD (getR xs r).left.toNat 0
      · have e2 : (coverR xs ls i j (g + 1) (getR xs r).right.toNat (p + ls.getD (getR xs r).left.toNat 0)).length = 0 := by rw [coverR, if_pos (by omega)]; rfl
        have e1 := ih (getR xs r).left.toNat p (by omega) (by omega)
        omega
      · by_cases c4 : p + ls.getD (getR xs r).left.toNat 0 ≤ i
        · have e1 : (coverR xs ls i j (g + 1) (getR xs r).left.toNat p).length = 0 := by rw [coverR, if_pos (by omega)]; rfl
          have e2 := ih (getR xs r).right.toNat (p + ls.getD (getR xs r).left.toNat 0) (by omega) (by omega)
          omega
        · have e1 := cover_one hl (i := i) (j := j) (g + 1) (getR xs r).left.toNat p (by omega) (by omega) (.inr (by omega))
          have e2 := cover_one hl (i := i) (j := j) (g + 1) (getR xs r).right.toNat (p + ls.getD (getR xs r).left.toNat 0) (by omega) (by omega) (.inl (by omega))
          omega
theorem cover_pos {xs : List GRule} {ls : List Int} (hl : lens xs = some ls) {i j : Int} (hij : i < j) : ∀ (f r : Nat) (p : Int), r < f → r < xs.length → i < p + ls.getD r 0 → p < j → 0 < (coverR xs ls i j f r p).length := by
  intro f
  induction f with
  | zero => intro r p hr; omega
  | succ f ih =>
    intro r p hr hx ha hb
    rw [coverR, if_neg (by omega)]
    have h1 := lens_pos' hl hx
    split
    · simp
    rename_i c2
    cases hpair : (getR xs r).pair with
    | false => have := lens_letter hl hx hpair; omega
    | true =>
      obtain ⟨q1, q2, q3, q4, q5⟩ := lens_pair hl hx hpair
      have hL := lens_pos' hl (r := (getR xs r).left.toNat) (by omega)
      have hR := lens_pos' hl (r := (getR xs r).right.toNat) (by omega)
      rw [List.length_append]
      by_cases c3 : i < p + ls.getD (getR xs r).left.toNat 0
      · have := ih (getR xs r).left.toNat p (by omega) (by omega) c3 hb
        omega
      · have := ih (getR xs r).right.toNat (p + ls.getD (getR xs r).left.toNat 0) (by omega) (by omega) (by omega) (by omega)
        omega

/-- The rules of a cover joined, behind the rules. -/
def joinStep (p : List GRule × Int) (c : Nat) : List GRule × Int := (p.1 ++ [pairR p.2 c], (p.1.length : Int))
def cutG (xs : List GRule) : List Nat → List GRule
  | [] => []
  | [c] => xs.take (c + 1)
  | c :: d :: cs => ((d :: cs).foldl joinStep (xs, (c : Int))).1
def partG (xs : List GRule) (ls : List Int) (i j : Int) : List GRule := trimG (cutG xs (piecesL xs ls i j))
theorem join_ok {m : Nat} : ∀ (cs : List Nat) (p : List GRule × Int), (∀ c ∈ cs, c < m) → m ≤ p.1.length → OkAll p.1 → 0 ≤ p.2 ∧ p.2 < p.1.length → OkAll (cs.foldl joinStep p).1 ∧ (cs.foldl joinStep p).1.length = p.1.length + cs.length
  | [], p, _, _, h, _ => ⟨h, rfl⟩
  | c :: cs, p, hc, hm, h, hp => by
    have hcm := hc c (by simp)
    have := join_ok cs (joinStep p c) (fun d hd => hc d (by simp [hd])) (by simp [joinStep]; omega) (h.snoc (okRule_pair hp ⟨by omega, by omega⟩)) (by simp [joinStep]; omega)
    refine ⟨this.1, ?_⟩
    rw [List.foldl_cons, this.2]
    simp [joinStep]; omega
theorem okAll_take {xs : List GRule} (h : OkAll xs) (n : Nat) : OkAll (xs.take n) := fun k r hk => by
  rw [List.getElem?_take] at hk
  split at hk
  · exact h k r hk
  · cases hk
theorem cutG_ok {xs : List GRule} (h : OkAll xs) (cs : List Nat) (hc : ∀ c ∈ cs, c < xs.length) : OkAll (cutG xs cs) ∧ (cutG xs cs).length ≤ xs.length + cs.length := by
  match cs with
  | [] => exact ⟨fun k r hk => by simp [cutG] at hk, by simp [cutG]⟩
  | [c] => exact ⟨okAll_take h _, by simp [cutG]; omega⟩
  | c :: d :: cs =>
    have := join_ok (d :: cs) (xs, (c : Int)) (fun x hx => hc x (by simp at hx; simp; exact .inr hx)) (Nat.le_refl _) h (by have := hc c (by simp); simp; omega)
    refine ⟨this.1, ?_⟩
    have e : (cutG xs (c :: d :: cs)).length = xs.length + (d :: cs).length := this.2
    rw [e]; simp
theorem pieces_len {xs : List GRule} {ls : List Int} (hl : lens xs = some ls) (i j : Int) : (piecesL xs ls i j).length ≤ 2 * xs.length := by
  unfold piecesL
  split
  · rename_i h
    have := cover_two hl (i := i) (j := j) xs.length (xs.length - 1) 0 (by omega) (by omega)
    omega
  · simp
theorem pieces_mem {xs : List GRule} {ls : List Int} (hl : lens xs = some ls) (i j : Int) : ∀ x ∈ piecesL xs ls i j, x < xs.length := by
  unfold piecesL
  split
  · rename_i h
    exact cover_mem hl xs.length (xs.length - 1) 0 (by omega) (by omega)
  · simp
theorem pieces_pos {xs : List GRule} {ls : List Int} (hl : lens xs = some ls) {i j : Int} (hi : 0 ≤ i) (hij : i < j) (hj : j ≤ lastI ls) (h0 : 0 < xs.length) : 0 < (piecesL xs ls i j).length := by
  have hll := lens_length hl
  have e : lastI ls = ls.getD (xs.length - 1) 0 := by rw [lastI, hll]
  rw [piecesL, if_pos ⟨h0, hij⟩]
  exact cover_pos hl hij xs.length (xs.length - 1) 0 (by omega) (by omega) (by omega) (by omega)
theorem partG_len {xs : List GRule} {ls : List Int} (hl : lens xs = some ls) (i j : Int) : (partG xs ls i j).length ≤ 3 * xs.length := by
  have h1 := trimG_len (cutG xs (piecesL xs ls i j))
  have h2 := (cutG_ok (okAll_lens hl) _ (pieces_mem hl i j)).2
  have h3 := pieces_len hl i j
  unfold partG; omega
end Go.Proofs.Ytoemoifeiigkoaa
