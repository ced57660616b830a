import Derived.Test.YtoemoifeiigkoaaPieces
import Derived.Test.YtoemoifeiigkoaaJoin
namespace Go.Proofs.Ytoemoifeiigkoaa

/-- A rule of which the numbers are those of the first alike. -/
def trimR (same : List Int) (r : GRule) : GRule := if r.pair then pairR (same.getD r.left.toNat 0) (same.getD r.right.toNat 0) else r
def trimStep (p : List GRule × List Int) (r : GRule) : List GRule × List Int := (p.1 ++ [trimR p.2 r], p.2 ++ [((p.1.idxOf (trimR p.2 r) : Nat) : Int)])
def canon (xs : List GRule) : List GRule × List Int := xs.foldl trimStep ([], [])
def OkAll (xs : List GRule) : Prop := ∀ k r, xs[k]? = some r → okRule k r = true
def needStep (ks : List GRule) (l : List Bool) (i : Nat) : List Bool :=
  if l.getD i false && (getR ks i).pair then (l.set (getR ks i).left.toNat true).set (getR ks i).right.toNat true else l
def needDown (ks : List GRule) : Nat → List Bool → List Bool
  | 0, l => l
  | i + 1, l => needDown ks i (needStep ks l i)
def outStep (ks : List GRule) (need : List Bool) (p : List GRule × List Int) (i : Nat) : List GRule × List Int :=
  if need.getD i false then (p.1 ++ [trimR p.2 (getR ks i)], p.2.set i p.1.length) else p
def rootB (xs : List GRule) : List Bool := (List.replicate xs.length false).set ((canon xs).2.getD (xs.length - 1) 0).toNat true
def needL (xs : List GRule) : List Bool := needDown (canon xs).1 xs.length (rootB xs)
def trimO (xs : List GRule) (k : Nat) : List GRule × List Int := (List.range k).foldl (outStep (canon xs).1 (needL xs)) ([], List.replicate xs.length 0)
/-- The rules that the last one reaches, alike ones once. -/
def trimG (xs : List GRule) : List GRule := (trimO xs xs.length).1

theorem trimR_pair {s : List Int} {r : GRule} (h : r.pair = true) : trimR s r = pairR (s.getD r.left.toNat 0) (s.getD r.right.toNat 0) := by rw [trimR, if_pos h]
theorem trimR_let {s : List Int} {r : GRule} (h : r.pair = false) : trimR s r = r := by rw [trimR, if_neg (by simp [h])]
theorem pairR_pair (a b : Int) : (pairR a b).pair = true := rfl
theorem trimR_isPair (s : List Int) (r : GRule) : (trimR s r).pair = r.pair := by
  unfold trimR; split
  · rename_i h; rw [h]; rfl
  · rfl
theorem canon_snoc {xs : List GRule} {k : Nat} {r : GRule} (h : xs[k]? = some r) : canon (xs.take (k + 1)) = trimStep (canon (xs.take k)) r := foldl_take_succ _ _ _ _ _ h
theorem okRule_pair {k : Nat} {a b : Int} (ha : 0 ≤ a ∧ a < k) (hb : 0 ≤ b ∧ b < k) : okRule k (pairR a b) = true := by
  unfold okRule
  rw [if_pos (pairR_pair a b)]
  show (decide (0 ≤ a) && decide (a ≤ (k : Int) - 1) && decide (0 ≤ b) && decide (b ≤ (k : Int) - 1)) = true
  rw [decide_eq_true ha.1, decide_eq_true (show a ≤ (k : Int) - 1 by omega), decide_eq_true hb.1, decide_eq_true (show b ≤ (k : Int) - 1 by omega)]; rfl
theorem okRule_at {k : Nat} {r : GRule} (h : okRule k r = true) (hp : r.pair = true) : 0 ≤ r.left ∧ r.left.toNat < k ∧ 0 ≤ r.right ∧ r.right.toNat < k := by
  unfold okRule at h
  rw [if_pos hp] at h
  simp at h; omega
theorem okRule_let {k : Nat} {r : GRule} (h : okRule k r = true) (hp : r.pair = false) : r.letter.size = 1 ∧ r.left = 0 ∧ r.right = 0 := by
  unfold okRule at h
  rw [if_neg (by simp [hp])] at h
  simp [isLet] at h
  exact ⟨h.1.1.1.1, h.1.2, h.2⟩
theorem okRule_small {k : Nat} {r : GRule} (h : okRule k r = true) : r.letter.size ≤ 1 := by
  cases hp : r.pair with
  | true => have : r.letter.size = 0 := by simpa [GRule.pair] using hp
            omega
  | false => have := (okRule_let h hp).1; omega

structure CanonOk (k : Nat) (p : List GRule × List Int) : Prop where
  l1 : p.1.length = k
  l2 : p.2.length = k
  low : ∀ i, i < k → 0 ≤ p.2.getD i 0 ∧ p.2.getD i 0 ≤ i
  idx : ∀ i, i < k → p.2.getD i 0 = ((p.1.idxOf (getR p.1 i) : Nat) : Int)
  ok : OkAll p.1
theorem getR_some {xs : List GRule} {k : Nat} {r : GRule} (h : xs[k]? = some r) : getR xs k = r := by
  unfold getR; rw [List.getD_eq_getElem?_getD, h]; rfl
theorem getR_append {xs ys : List GRule} {i : Nat} (h : i < xs.length) : getR (xs ++ ys) i = getR xs i := by
  unfold getR; rw [List.getD_eq_getElem?_getD, List.getD_eq_getElem?_getD, List.getElem?_append_left h]
theorem getR_last (xs : List GRule) (r : GRule) : getR (xs ++ [r]) xs.length = r := by
  unfold getR; simp
theorem getR_mem {xs : List GRule} {i : Nat} (h : i < xs.length) : getR xs i ∈ xs := List.mem_of_getElem? (getR_at h)
theorem getI_append {xs ys : List Int} {i : Nat} (h : i < xs.length) : (xs ++ ys).getD i 0 = xs.getD i 0 := by
  rw [List.getD_eq_getElem?_getD, List.getD_eq_getElem?_getD, List.getElem?_append_left h]
theorem getI_last (xs : List Int) (x : Int) : (xs ++ [x]).getD xs.length 0 = x := by simp
theorem OkAll.snoc {xs : List GRule} {r : GRule} (h : OkAll xs) (hr : okRule xs.length r = true) : OkAll (xs ++ [r]) := by
  intro k x hk
  rcases Nat.lt_or_ge k xs.length with hlt | hge
  · rw [List.getElem?_append_left hlt] at hk; exact h k x hk
  · have hl := (List.getElem?_eq_some_iff.1 hk).1
    simp at hl
    have : k = xs.length := by omega
    subst this
    simp at hk; rw [← hk]; exact hr
theorem canon_ok {xs : List GRule} (h : OkAll xs) : ∀ k, k ≤ xs.length → CanonOk k (canon (xs.take k)) := by
  intro k
  induction k with
  | zero => intro _; exact ⟨rfl, rfl, fun i hi => absurd hi (by omega), fun i hi => absurd hi (by omega), fun k r hk => by simp [canon] at hk⟩
  | succ k ih =>
    intro hk
    have H := ih (by omega)
    obtain ⟨r, hr⟩ : ∃ r, xs[k]? = some r := ⟨_, List.getElem?_eq_getElem (by omega)⟩
    have hor := h k r hr
    rw [canon_snoc hr]
    obtain ⟨K, S, hp⟩ : ∃ K S, canon (xs.take k) = (K, S) := ⟨_, _, rfl⟩
    rw [hp] at H ⊢
    have l1 : K.length = k := H.l1
    have l2 : S.length = k := H.l2
    have hx : okRule k (trimR S r) = true := by
      cases hpr : r.pair with
      | true =>
        obtain ⟨h1, h2, h3, h4⟩ := okRule_at hor hpr
        have a1 : 0 ≤ S.getD r.left.toNat 0 ∧ S.getD r.left.toNat 0 ≤ (r.left.toNat : Int) := H.low _ h2
        have a2 : 0 ≤ S.getD r.right.toNat 0 ∧ S.getD r.right.toNat 0 ≤ (r.right.toNat : Int) := H.low _ h4
        rw [trimR_pair hpr]
        exact okRule_pair ⟨a1.1, by omega⟩ ⟨a2.1, by omega⟩
      | false => rw [trimR_let hpr]; exact hor
    obtain ⟨X, hX⟩ : ∃ X, trimR S r = X := ⟨_, rfl⟩
    have e : trimStep (K, S) r = (K ++ [X], S ++ [((K.idxOf X : Nat) : Int)]) := by unfold trimStep; rw [hX]
    rw [e]
    rw [hX] at hx
    refine ⟨by simp [l1], by simp [l2], ?_, ?_, ?_⟩
    · intro i hi
      rcases Nat.lt_or_ge i k with hlt | hge
      · show 0 ≤ (S ++ _).getD i 0 ∧ _
        rw [getI_append (by omega)]; exact H.low i hlt
      · have : i = S.length := by omega
        subst this
        show 0 ≤ (S ++ _).getD S.length 0 ∧ (S ++ _).getD S.length 0 ≤ _
        rw [getI_last]
        have : K.idxOf X ≤ K.length := List.idxOf_le_length
        omega
    · intro i hi
      show (S ++ _).getD i 0 = (((K ++ [X]).idxOf (getR (K ++ [X]) i) : Nat) : Int)
      rcases Nat.lt_or_ge i k with hlt | hge
      · rw [getI_append (by omega), getR_append (by omega), List.idxOf_append, if_pos (getR_mem (by omega))]
        exact H.idx i hlt
      · have : i = K.length := by omega
        subst this
        rw [getR_last]
        have hS : (S ++ [((K.idxOf X : Nat) : Int)]).getD K.length 0 = ((K.idxOf X : Nat) : Int) := by rw [l1, ← l2, getI_last]
        rw [hS, List.idxOf_append]
        split
        · rfl
        · rename_i hn
          rw [List.idxOf_eq_length hn]; simp
    · exact H.ok.snoc (by rw [show (K, S).1.length = k from l1]; exact hx)

theorem needStep_len (ks : List GRule) (l : List Bool) (i : Nat) : (needStep ks l i).length = l.length := by
  unfold needStep; split <;> simp
theorem needDown_len (ks : List GRule) : ∀ (i : Nat) (l : List Bool), (needDown ks i l).length = l.length
  | 0, _ => rfl
  | i + 1, l => by rw [needDown, needDown_len ks i, needStep_len]
theorem needL_len (xs : List GRule) : (needL xs).length = xs.length := by rw [needL, needDown_len]; simp [rootB]
theorem outStep_len (ks : List GRule) (need : List Bool) (p : List GRule × List Int) (i : Nat) : (outStep ks need p i).2.length = p.2.length ∧ (outStep ks need p i).1.length ≤ p.1.length + 1 := by
  unfold outStep; split <;> simp
theorem trimO_succ (xs : List GRule) (k : Nat) : trimO xs (k + 1) = outStep (canon xs).1 (needL xs) (trimO xs k) k := by
  unfold trimO; rw [List.range_succ, List.foldl_append]; rfl
theorem trimO_len (xs : List GRule) : ∀ k, (trimO xs k).2.length = xs.length ∧ (trimO xs k).1.length ≤ k := by
  intro k
  induction k with
  | zero => simp [trimO]
  | succ k ih =>
    rw [trimO_succ]
    have := outStep_len (canon xs).1 (needL xs) (trimO xs k) k
    omega
theorem trimG_len (xs : List GRule) : (trimG xs).length ≤ xs.length := (trimO_len xs xs.length).2
def Small1 (l : List GRule) : Prop := ∀ r ∈ l, r.letter.size ≤ 1
theorem okAll_small {xs : List GRule} (h : OkAll xs) : Small1 xs := by
  intro r hr
  obtain ⟨k, hk⟩ := List.mem_iff_getElem?.1 hr
  exact okRule_small (h k r hk)
theorem trimR_small {s : List Int} {r : GRule} (h : r.letter.size ≤ 1) : (trimR s r).letter.size ≤ 1 := by
  unfold trimR; split
  · exact (by decide : (0 : Nat) ≤ 1)
  · exact h
theorem canon_all {xs : List GRule} (h : OkAll xs) : CanonOk xs.length (canon xs) := by
  have := canon_ok h xs.length (Nat.le_refl _)
  rwa [List.take_length] at this
theorem trimO_small {xs : List GRule} (h : OkAll xs) : ∀ k, k ≤ xs.length → Small1 (trimO xs k).1 := by
  intro k
  induction k with
  | zero => intro _ r hr; simp [trimO] at hr
  | succ k ih =>
    intro hk
    have H := ih (by omega)
    have hc := canon_all h
    rw [trimO_succ]
    unfold outStep
    split
    · intro r hr
      rcases List.mem_append.1 hr with hr | hr
      · exact H r hr
      · rw [List.mem_singleton] at hr; subst hr
        exact trimR_small (okAll_small hc.ok _ (getR_mem (by rw [hc.l1]; omega)))
    · exact H
theorem trimG_small {xs : List GRule} (h : OkAll xs) : SmallL (trimG xs) := fun r hr => Nat.le_trans (trimO_small h xs.length (Nat.le_refl _) r hr) (by decide)
theorem okAll_lens {xs : List GRule} {ls : List Int} (h : lens xs = some ls) : OkAll xs := fun k r hk => (lens_steps h k r hk).1
end Go.Proofs.Ytoemoifeiigkoaa
