import Derived.Laws.Strings
namespace Go.Proofs.Ytoemoifeiigkoaa

structure GRule where
  letter : ByteArray
  left : Int
  right : Int
  deriving DecidableEq

def maxL : Int := 1000000000000000
def GRule.pair (r : GRule) : Bool := r.letter.size == 0
def isLet (s : ByteArray) : Bool := s.size == 1 && decide (97 ≤ ((s.data.getD 0 0).toNat : Int)) && decide (((s.data.getD 0 0).toNat : Int) ≤ 100)
def okRule (i : Nat) (r : GRule) : Bool :=
  if r.pair then decide (0 ≤ r.left) && decide (r.left ≤ (i : Int) - 1) && decide (0 ≤ r.right) && decide (r.right ≤ (i : Int) - 1) else isLet r.letter && r.left == 0 && r.right == 0
def ruleLen (out : List Int) (r : GRule) : Int := if r.pair then out.getD r.left.toNat 0 + out.getD r.right.toNat 0 else 1
def lensStep (o : Option (List Int)) (r : GRule) : Option (List Int) :=
  o.bind fun out => if okRule out.length r = true ∧ ruleLen out r ≤ maxL then some (out ++ [ruleLen out r]) else none
def lens (rs : List GRule) : Option (List Int) := rs.foldl lensStep (some [])

theorem foldl_take_succ {α β : Type} (f : β → α → β) (s : β) (xs : List α) (k : Nat) (x : α) (h : xs[k]? = some x) :
    (xs.take (k + 1)).foldl f s = f ((xs.take k).foldl f s) x := by
  rw [List.take_add_one, h]; simp
theorem lens_none (xs : List GRule) : xs.foldl lensStep none = none := by
  induction xs with
  | nil => rfl
  | cons x xs ih => simpa [lensStep] using ih
theorem lens_bad {rs : List GRule} {k : Nat} {out : List Int} {r : GRule} (h : lens (rs.take k) = some out) (hr : rs[k]? = some r) (hb : lensStep (some out) r = none) : lens rs = none := by
  have h1 : lens (rs.take (k+1)) = none := by unfold lens at *; rw [foldl_take_succ _ _ _ _ _ hr, h, hb]
  have h2 : lens rs = (rs.drop (k+1)).foldl lensStep (lens (rs.take (k+1))) := by
    unfold lens; rw [← List.foldl_append, List.take_append_drop]
  rw [h2, h1, lens_none]
theorem lens_next {rs : List GRule} {k : Nat} {out : List Int} {r : GRule} (h : lens (rs.take k) = some out) (hr : rs[k]? = some r) (h1 : okRule out.length r = true) (h2 : ruleLen out r ≤ maxL) :
    lens (rs.take (k+1)) = some (out ++ [ruleLen out r]) := by
  unfold lens at *; rw [foldl_take_succ _ _ _ _ _ hr, h]; simp [lensStep, h1, h2]
theorem lens_length {rs : List GRule} {out : List Int} (h : lens rs = some out) : out.length = rs.length := by
  suffices H : ∀ (xs : List GRule) (a o : List Int), xs.foldl lensStep (some a) = some o → o.length = a.length + xs.length by
    simpa using H rs [] out h
  intro xs
  induction xs with
  | nil => intro a o h; simp at h; subst h; simp
  | cons x xs ih =>
    intro a o h
    simp only [List.foldl_cons, lensStep, Option.bind_some] at h
    split at h
    · have := ih _ _ h; simp at this ⊢; omega
    · rw [lens_none] at h; cases h
theorem lens_pos {rs : List GRule} {out : List Int} (h : lens rs = some out) : ∀ v ∈ out, 1 ≤ v ∧ v ≤ maxL := by
  suffices H : ∀ (xs : List GRule) (a o : List Int), (∀ v ∈ a, 1 ≤ v ∧ v ≤ maxL) → xs.foldl lensStep (some a) = some o → ∀ v ∈ o, 1 ≤ v ∧ v ≤ maxL by
    exact H rs [] out (by simp) h
  intro xs
  induction xs with
  | nil => intro a o ha h; simp at h; subst h; exact ha
  | cons x xs ih =>
    intro a o ha h
    simp only [List.foldl_cons, lensStep, Option.bind_some] at h
    split at h
    · rename_i hc
      refine ih _ _ ?_ h
      intro v hv
      rw [List.mem_append] at hv
      rcases hv with hv | hv
      · exact ha v hv
      · simp at hv; subst hv
        refine ⟨?_, hc.2⟩
        unfold ruleLen
        split
        · rename_i hp
          have hok := hc.1
          simp only [okRule, hp, if_true, Bool.and_eq_true, decide_eq_true_eq] at hok
          have g : ∀ j : Nat, j < a.length → 1 ≤ a.getD j 0 := by
            intro j hj
            rw [List.getD_eq_getElem?_getD, List.getElem?_eq_getElem hj]
            exact (ha _ (List.getElem_mem hj)).1
          have g1 := g x.left.toNat (by omega)
          have g2 := g x.right.toNat (by omega)
          omega
        · omega
    · rw [lens_none] at h; cases h

theorem isEmpty_size (s : ByteArray) : s.toList.isEmpty = (s.size == 0) := by
  have h : s.toList = s.data.toList := by
    exact ByteArray.toList_eq s
  rw [h]; show s.data.toList.isEmpty = (s.data.size == 0)
  cases s.data with | mk l => cases l <;> simp
theorem lensStep_none {out : List Int} {r : GRule} (h : okRule out.length r = false) : lensStep (some out) r = none := by simp [lensStep, h]
theorem lensStep_big {out : List Int} {r : GRule} (h : maxL < ruleLen out r) : lensStep (some out) r = none := by
  have : ¬ ruleLen out r ≤ maxL := by omega
  simp [lensStep, this]
section
variable {k : Nat} {r : GRule}
theorem okp_yes (h1 : r.letter.toList.isEmpty = true) (h2 : 0 ≤ r.left ∧ r.left ≤ (k:Int) - 1) (h3 : (!decide (0 ≤ r.right)) = false ∧ (!decide (r.right ≤ (k:Int) - 1)) = false) : okRule k r = true ∧ r.pair = true := by
  rw [isEmpty_size] at h1
  simp at h3
  have hp : r.pair = true := h1
  simp [okRule, hp]; omega
theorem okp_no1 (h1 : r.letter.toList.isEmpty = true) (h2 : ¬ (0 ≤ r.left ∧ r.left ≤ (k:Int) - 1)) : okRule k r = false := by
  rw [isEmpty_size] at h1
  have hp : r.pair = true := h1
  simp [okRule, hp]; omega
theorem okp_no2 (h1 : r.letter.toList.isEmpty = true) (h3 : (!decide (0 ≤ r.right)) = true ∨ (!decide (r.right ≤ (k:Int) - 1)) = true) : okRule k r = false := by
  rw [isEmpty_size] at h1
  have hp : r.pair = true := h1
  simp at h3
  simp [okRule, hp]; omega
theorem getD0 (s : ByteArray) (h : 0 < s.size) : s.data.getD 0 0 = s[0] := by
  have h' : 0 < s.data.size := h
  show s.data.getD 0 0 = s.data[0]
  simp [Array.getD, h]
theorem okl_yes (h1 : r.letter.toList.isEmpty = false) (h2 : (r.letter.size : Int) = 1) (hs : 0 < r.letter.size) (h3 : (97 : Int) ≤ ((r.letter[0]'hs).toNat : Int) ∧ ((r.letter[0]'hs).toNat : Int) ≤ 100) (h4 : r.left = 0) (h5 : (r.right != 0) = false) :
    okRule k r = true ∧ r.pair = false := by
  rw [isEmpty_size] at h1
  have hp : r.pair = false := h1
  simp at h5
  have h2' : r.letter.size = 1 := by omega
  simp only [okRule, hp, isLet, getD0 _ hs, h4, h5, h2']
  simp [h3.1, h3.2]
theorem okl_no1 (h1 : r.letter.toList.isEmpty = false) (h2 : ¬ (r.letter.size : Int) = 1) : okRule k r = false := by
  rw [isEmpty_size] at h1
  have hp : r.pair = false := h1
  have h2' : ¬ r.letter.size = 1 := by omega
  simp [okRule, hp, isLet, h2']
theorem okl_no2 (h1 : r.letter.toList.isEmpty = false) (hs : 0 < r.letter.size) (h3 : ¬ ((97 : Int) ≤ ((r.letter[0]'hs).toNat : Int) ∧ ((r.letter[0]'hs).toNat : Int) ≤ 100)) : okRule k r = false := by
  rw [isEmpty_size] at h1
  have hp : r.pair = false := h1
  simp only [okRule, hp, isLet, getD0 _ hs]
  by_cases ha : (97 : Int) ≤ ((r.letter[0]'hs).toNat : Int)
  · have hb : ¬ ((r.letter[0]'hs).toNat : Int) ≤ 100 := fun hb => h3 ⟨ha, hb⟩
    simp [hb]
  · simp [ha]
theorem okl_no3 (h1 : r.letter.toList.isEmpty = false) (h4 : ¬ r.left = 0) : okRule k r = false := by
  rw [isEmpty_size] at h1
  have hp : r.pair = false := h1
  simp [okRule, hp, h4]
theorem okl_no4 (h1 : r.letter.toList.isEmpty = false) (h5 : (r.right != 0) = true) : okRule k r = false := by
  rw [isEmpty_size] at h1
  have hp : r.pair = false := h1
  simp at h5
  simp [okRule, hp, h5]
end
theorem fill_step {α : Type} (xs : List α) (z : α) (k : Nat) (x : α) (h : xs[k]? = some x) : (xs.take k ++ List.replicate (xs.length - k) z).set k x = xs.take (k + 1) ++ List.replicate (xs.length - (k + 1)) z := by
  obtain ⟨hk, rfl⟩ := List.getElem?_eq_some_iff.1 h
  rw [List.set_append, if_neg (by simp; omega), List.length_take, Nat.min_eq_left (by omega), Nat.sub_self]
  have e : xs.length - k = (xs.length - (k+1)) + 1 := by omega
  rw [e, List.replicate_succ, List.set_cons_zero, List.take_add_one, h, List.append_assoc]
  rfl
def letOk (c : UInt8) : Bool := decide (97 ≤ (c.toNat : Int)) && decide ((c.toNat : Int) ≤ 100)
def wordOk (s : ByteArray) : Bool := decide ((s.size : Int) ≤ 2000) && s.data.toList.all letOk
theorem toList_getElem? (s : ByteArray) (k : Nat) (h : k < s.size) : s.data.toList[k]? = some s[k] := by
  have h' : k < s.data.toList.length := by simpa using h
  rw [List.getElem?_eq_getElem h']; rfl
theorem all_step {s : ByteArray} {k : Nat} (h : k < s.size) (ha : (s.data.toList.take k).all letOk = true) (hk : letOk s[k] = true) : (s.data.toList.take (k+1)).all letOk = true := by
  rw [List.take_add_one, toList_getElem? s k h, List.all_append, ha]; simpa using hk
theorem all_bad {s : ByteArray} {k : Nat} (h : k < s.size) (hk : letOk s[k] = false) : s.data.toList.all letOk = false := by
  rw [List.all_eq_false]
  exact ⟨s[k], List.mem_of_getElem? (toList_getElem? s k h), by simp [hk]⟩
theorem all_end {s : ByteArray} {k : Nat} (h : s.size ≤ k) (ha : (s.data.toList.take k).all letOk = true) : s.data.toList.all letOk = true := by
  rw [List.take_of_length_le (by simpa using h)] at ha; exact ha
theorem wordOk_one {s : ByteArray} (h : s.size = 1) : wordOk s = isLet s := by
  obtain ⟨⟨l⟩⟩ := s
  match l, h with
  | [c], _ => simp [wordOk, isLet, letOk, ByteArray.size]
theorem letOk_bad {c : UInt8} (h : (!decide ((97 : Int) ≤ (c.toNat : Int))) = true ∨ (!decide ((c.toNat : Int) ≤ 100)) = true) : letOk c = false := by
  simp at h; simp [letOk]; omega
theorem letOk_good {c : UInt8} (h : (!decide ((97 : Int) ≤ (c.toNat : Int))) = false ∧ (!decide ((c.toNat : Int) ≤ 100)) = false) : letOk c = true := by
  simp at h; simp [letOk]; omega
theorem okl_eq {i : Nat} {r : GRule} (h : (!r.letter.toList.isEmpty) = true) : okRule i r = (isLet r.letter && r.left == 0 && r.right == 0) := by
  rw [isEmpty_size] at h
  have hp : r.pair = false := by simpa [GRule.pair] using h
  simp [okRule, hp]
theorem okp_eq {i : Nat} {r : GRule} (h : (!r.letter.toList.isEmpty) = false) : okRule i r = (decide (0 ≤ r.left) && decide (r.left ≤ (i : Int) - 1) && decide (0 ≤ r.right) && decide (r.right ≤ (i : Int) - 1)) := by
  rw [isEmpty_size] at h
  have hp : r.pair = true := by simpa [GRule.pair] using h
  simp [okRule, hp]
theorem isLet_not {s : ByteArray} (h : ¬ (s.size : Int) = 1) : isLet s = false := by
  have : ¬ s.size = 1 := by omega
  simp [isLet, this]
end Go.Proofs.Ytoemoifeiigkoaa
