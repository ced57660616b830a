import Derived.Test.YtfhiaifdigefdaaDoorM6
import Derived.Test.YtfhiaifdigefdaaDoorM2
import Derived.Test.YtfhiaifdigefdaaDoorM3
import Derived.Test.YtfhiaifdigefdaaDoorM5
import Derived.Test.YtfhiaifdigefdaaDoorM1
import Derived.Shelf.SlicesE.Reverse
import Derived.Lib.ConvBytes
import Derived.Lib.RowBridge
import Derived.Laws.IdiomCopy
import Derived.Lib.LazyBuf
import Derived.Deep.CutRange
import Derived.Deep.DeepCutAuto
import Derived.Test.YtfhiaifdigefdaaDoorM4
import Derived.BigQuiet
import Derived.Lib.Builder
import Derived.Laws.Bits64b
import Derived.Deep.CutBlock
namespace Go.Proofs.YtfhiaifdigefdaaDoor
open Go.RowKit
end Go.Proofs.YtfhiaifdigefdaaDoor
namespace Go.Proofs
end Go.Proofs
namespace Go.Proofs.YtfhiaifdigefdaaDoor
open Go.RowKit
theorem raise_len {n : Nat} {lx a : List Int} {r : GRule} (hn : lx.length = n) (h : okRule a.length r = true) : ruleLen (lx ++ a) (raiseR n r) = ruleLen a r := by
  unfold raiseR
  cases hp : r.pair with
  | false => simp [ruleLen, hp]
  | true =>
    have h2 := okRule_at h hp
    have hp2 : ({ letter := r.letter, left := r.left + n, right := r.right + n } : GRule).pair = true := hp
    simp only [if_true]
    unfold ruleLen
    rw [if_pos hp2, if_pos hp]
    have e1 : (r.left + (n : Int)).toNat = n + r.left.toNat := by omega
    have e2 : (r.right + (n : Int)).toNat = n + r.right.toNat := by omega
    show (lx ++ a).getD (r.left + n).toNat 0 + (lx ++ a).getD (r.right + n).toNat 0 = _
    rw [e1, e2, List.getD_eq_getElem?_getD, List.getD_eq_getElem?_getD, List.getElem?_append_right (by omega), List.getElem?_append_right (by omega), hn, Nat.add_sub_cancel_left, Nat.add_sub_cancel_left]
    rw [← List.getD_eq_getElem?_getD, ← List.getD_eq_getElem?_getD]
theorem lens_raise {xs ys : List GRule} {lx ly : List Int} (hx : lens xs = some lx) (hy : lens ys = some ly) : lens (xs ++ ys.map (raiseR xs.length)) = some (lx ++ ly) := by
  rw [lens_app, hx]
  have hn : lx.length = xs.length := lens_length hx
  suffices H : ∀ (l : List GRule) (a o : List Int), l.foldl lensStep (some a) = some o → (l.map (raiseR xs.length)).foldl lensStep (some (lx ++ a)) = some (lx ++ o) by simpa using H ys [] ly hy
  intro l
  induction l with
  | nil => intro a o h; simp at h; simp [h]
  | cons y l ih =>
    intro a o h
    rw [List.map_cons, List.foldl_cons]
    rw [List.foldl_cons] at h
    cases hs : lensStep (some a) y with
    | none => rw [hs, lens_none] at h; cases h
    | some b =>
      rw [hs] at h
      simp only [lensStep, Option.bind_some] at hs
      split at hs
      · rename_i hok
        cases hs
        have e1 : okRule (lx ++ a).length (raiseR xs.length y) = true := by rw [List.length_append, hn]; exact raiseR_ok hok.1
        have e2 : ruleLen (lx ++ a) (raiseR xs.length y) = ruleLen a y := raise_len hn hok.1
        have e3 : lensStep (some (lx ++ a)) (raiseR xs.length y) = some (lx ++ (a ++ [ruleLen a y])) := by
          simp only [lensStep, Option.bind_some]
          rw [e2, if_pos ⟨e1, hok.2⟩, List.append_assoc]
        rw [e3]
        exact ih _ _ h
      · cases hs
theorem joinG_lens {xs ys : List GRule} {lx ly : List Int} (h1 : lens xs = some lx) (h2 : lens ys = some ly) (hm : lastI lx + lastI ly ≤ maxL) : ∃ l, lens (joinG xs ys) = some l ∧ lastI l = lastI lx + lastI ly := by
  have hxl := lens_length h1
  have hyl := lens_length h2
  unfold joinG
  by_cases c1 : xs.length = 0
  · rw [if_pos c1]
    have : lx = [] := List.eq_nil_of_length_eq_zero (by omega)
    exact ⟨ly, h2, by rw [this]; simp [lastI]⟩
  · rw [if_neg c1]
    by_cases c2 : ys.length = 0
    · rw [if_pos c2]
      have : ly = [] := List.eq_nil_of_length_eq_zero (by omega)
      exact ⟨lx, h1, by rw [this]; simp [lastI]⟩
    · rw [if_neg c2]
      have hr := lens_raise h1 h2
      have hlen : (xs ++ ys.map (raiseR xs.length)).length = xs.length + ys.length := by simp
      have e1 : ((xs.length : Int) - 1) = ((xs.length - 1 : Nat) : Int) := by omega
      have e2 : ((xs.length : Int) + ys.length - 1) = ((xs.length + ys.length - 1 : Nat) : Int) := by omega
      have g2 : (lx ++ ly).getD (xs.length - 1) 0 = lastI lx := by
        rw [lastI, List.getD_eq_getElem?_getD, List.getElem?_append_left (by omega), ← List.getD_eq_getElem?_getD, hxl]
      have g3 : (lx ++ ly).getD (xs.length + ys.length - 1) 0 = lastI ly := by
        rw [lastI, List.getD_eq_getElem?_getD, List.getElem?_append_right (by omega), ← List.getD_eq_getElem?_getD, hxl, hyl]
        congr 1; omega
      rw [e1, e2]
      have h3 := lens_snoc (a := xs.length - 1) (b := xs.length + ys.length - 1) hr (by omega) (by omega) (by rw [g2, g3]; exact hm)
      rw [g2, g3] at h3
      exact ⟨_, h3, by simp [lastI]⟩
theorem getR_right {xs ys : List GRule} {n r : Nat} (hr : r < ys.length) : getR (xs ++ ys.map (raiseR n)) (xs.length + r) = raiseR n (getR ys r) := by
  unfold getR
  rw [List.getD_eq_getElem?_getD, List.getElem?_append_right (by omega), List.getD_eq_getElem?_getD]
  rw [show xs.length + r - xs.length = r by omega, List.getElem?_map, List.getElem?_eq_getElem hr]
  rfl
theorem raise_pair (n : Nat) (r : GRule) : (raiseR n r).pair = r.pair := by
  unfold raiseR; split <;> rfl
theorem wordR_raise {xs ys : List GRule} {ly : List Int} (hy : lens ys = some ly) : ∀ (f r : Nat), r < ys.length → wordR (xs ++ ys.map (raiseR xs.length)) f (xs.length + r) = wordR ys f r := by
  intro f
  induction f with
  | zero => intro r _; rfl
  | succ f ih =>
    intro r hr
    rw [wordR, wordR, getR_right hr, raise_pair]
    cases hp : (getR ys r).pair with
    | false => simp [raiseR, hp]
    | true =>
      obtain ⟨q1, q2, q3, q4, q5⟩ := lens_pair hy hr hp
      rw [if_pos rfl, if_pos rfl, ← ih _ (show (getR ys r).left.toNat < ys.length by omega), ← ih _ (show (getR ys r).right.toNat < ys.length by omega)]
      have e1 : (raiseR xs.length (getR ys r)).left.toNat = xs.length + (getR ys r).left.toNat := by simp only [raiseR, hp, if_true]; omega
      have e2 : (raiseR xs.length (getR ys r)).right.toNat = xs.length + (getR ys r).right.toNat := by simp only [raiseR, hp, if_true]; omega
      rw [e1, e2]
theorem joinG_word {xs ys : List GRule} {lx ly : List Int} (h1 : lens xs = some lx) (h2 : lens ys = some ly) (hm : lastI lx + lastI ly ≤ maxL) : wordG (joinG xs ys) = wordG xs ++ wordG ys := by
  obtain ⟨l, hl, _⟩ := joinG_lens h1 h2 hm
  unfold joinG at hl ⊢
  by_cases c1 : xs.length = 0
  · have : xs = [] := List.eq_nil_of_length_eq_zero c1
    subst this; simp [wordG]
  · rw [if_neg c1] at hl ⊢
    by_cases c2 : ys.length = 0
    · have : ys = [] := List.eq_nil_of_length_eq_zero c2
      subst this; simp [wordG]
    · rw [if_neg c2] at hl ⊢
      have hr := lens_raise h1 h2
      have hlen : (xs ++ ys.map (raiseR xs.length)).length = xs.length + ys.length := by simp
      have e1 : ((xs.length : Int) - 1) = ((xs.length - 1 : Nat) : Int) := by omega
      have e2 : ((xs.length : Int) + ys.length - 1) = ((xs.length + (ys.length - 1) : Nat) : Int) := by omega
      rw [e1, e2] at hl ⊢
      rw [wordG_snoc, W1_snoc hl (by omega) (by omega), W1_appL h1 (by omega), wordG_pos (by omega), wordG_pos (show 0 < ys.length by omega)]
      congr 1
      have hw := wordR_fuel hr (xs.length + (ys.length - 1) + 1) (xs.length + (ys.length - 1)) (by omega) (by omega)
      rw [← hw, wordR_raise h2 _ _ (by omega)]
      exact wordR_fuel h2 _ _ (by omega) (by omega)
theorem digV_ge (m : Nat) (d : UInt8) : 2 * m ≤ digV m d := by unfold digV; omega
theorem digF_ge : ∀ (ds : List UInt8) (m : Nat), m ≤ ds.foldl digV m := by
  intro ds
  induction ds with
  | nil => intro m; exact Nat.le_refl _
  | cons d ds ih => intro m; rw [List.foldl_cons]; have h1 := ih (digV m d); have h2 := digV_ge m d; omega
theorem powFold_lens {root : Nat} {c : Int} (hc : 0 ≤ c) : ∀ (ds : List UInt8) (L : List GRule) (l : List Int) (m : Nat), lens L = some l → 0 < L.length → root < L.length → l.getD root 0 = c → lastI l = m * c →
    ((ds.foldl digV m : Nat) : Int) * c ≤ maxL → ∃ l', lens (ds.foldl (powStep (root : Int)) L) = some l' := by
  intro ds
  induction ds with
  | nil => intro L l m h _ _ _ _ _; exact ⟨l, h⟩
  | cons d ds ih =>
    intro L l m hl h0 hr hroot hlast hb
    rw [List.foldl_cons] at hb ⊢
    have hlen := lens_length hl
    have hla := lastI_at hl h0
    have hge := digF_ge ds (digV m d)
    have hb1 : ((digV m d : Nat) : Int) * c ≤ maxL := Int.le_trans (Int.mul_le_mul_of_nonneg_right (by omega) hc) hb
    have hb2 : ((2 * m : Nat) : Int) * c ≤ maxL := Int.le_trans (Int.mul_le_mul_of_nonneg_right (by have := digV_ge m d; omega) hc) hb1
    have e2 : ((2 * m : Nat) : Int) * c = m * c + m * c := by rw [show ((2 * m : Nat) : Int) = (m : Int) + m by omega, Int.add_mul]
    have e0 : ((L.length : Int) - 1) = ((L.length - 1 : Nat) : Int) := by omega
    have hS : powStep root L d = (L ++ [pairR ((L.length - 1 : Nat) : Int) ((L.length - 1 : Nat) : Int)]) ++ (if d = 49 then [pairR (L.length : Int) root] else []) := by
      unfold powStep; rw [e0]
    have h2 := lens_snoc (a := L.length - 1) (b := L.length - 1) hl (by omega) (by omega) (by rw [← hla, hlast, ← e2]; exact hb2)
    rw [← hla, hlast] at h2
    have gA : ∀ x : Int, (l ++ [x]).getD L.length 0 = x := fun x => by rw [← hlen, List.getD_eq_getElem?_getD, List.getElem?_append_right (Nat.le_refl _)]; simp
    have gB : ∀ x : Int, (l ++ [x]).getD root 0 = c := fun x => by rw [List.getD_eq_getElem?_getD, List.getElem?_append_left (by omega), ← List.getD_eq_getElem?_getD]; exact hroot
    have gC : ∀ (u : List Int) (x : Int), lastI (u ++ [x]) = x := fun u x => by simp [lastI]
    by_cases hd : d = 49
    · have e3 : ((digV m d : Nat) : Int) * c = (m * c + m * c) + c := by
        rw [show ((digV m d : Nat) : Int) = ((2 * m : Nat) : Int) + 1 by unfold digV; rw [if_pos hd]; omega, Int.add_mul, e2, Int.one_mul]
      have h3 := lens_snoc (a := L.length) (b := root) h2 (by simp) (by simp; omega) (by rw [gA, gB, ← e3]; exact hb1)
      rw [gA, gB, ← e3] at h3
      rw [hS, if_pos hd]
      refine ih _ _ (digV m d) h3 (by simp) (by simp; omega) ?_ (gC _ _) hb
      rw [List.getD_eq_getElem?_getD, List.getElem?_append_left (by simp; omega), ← List.getD_eq_getElem?_getD]
      exact gB _
    · have e3 : ((digV m d : Nat) : Int) * c = m * c + m * c := by
        rw [show digV m d = 2 * m by unfold digV; rw [if_neg hd]; omega, e2]
      rw [hS, if_neg hd, List.append_nil]
      exact ih _ _ (digV m d) h2 (by simp) (by simp; omega) (gB _) (by rw [gC, e3]) hb
theorem part_two {xs : List GRule} {i j : Int} (hx : gramOk xs = true) (lx : 3 * xs.length ≤ 400) (hi : 0 ≤ i) (hij : i ≤ j) (hj : j ≤ gramLen xs) :
    partCode xs i j = 0 ∧ gramOk (partOut xs i j) = true ∧ wordG (partOut xs i j) = cutL (wordG xs) i j ∧ (partOut xs i j).length ≤ 3 * xs.length := by
  obtain ⟨_, a, ha⟩ := gram_lens hx
  have ea := gramLen_of ha
  obtain ⟨p1, p2⟩ := partOut_yes hx ha ⟨hi, hij, by omega⟩
  obtain ⟨l1, h1, h2⟩ := partG_word ha hi hij (by omega)
  have hlen := partG_len ha i j
  have ok : gramOk (partG xs a i j) = true := by simp [gramOk, h1]; omega
  have e1 : partOut xs i j = partG xs a i j := by rw [p1]; simp [limOut, ok]
  exact ⟨by rw [p2]; simp [limCode, ok], by rw [e1]; exact ok, by rw [e1]; exact h2, by rw [e1]; exact hlen⟩
theorem join_two {xs ys : List GRule} (hx : gramOk xs = true) (hy : gramOk ys = true) (l : xs.length + ys.length + 1 ≤ 400) (g : gramLen xs + gramLen ys ≤ 1000000000000000) :
    joinCode xs ys = 0 ∧ gramOk (joinOut xs ys) = true ∧ wordG (joinOut xs ys) = wordG xs ++ wordG ys ∧ (joinOut xs ys).length ≤ xs.length + ys.length + 1 := by
  obtain ⟨_, a, ha⟩ := gram_lens hx
  obtain ⟨_, b, hb⟩ := gram_lens hy
  have ea := gramLen_of ha
  have eb := gramLen_of hb
  have hm : lastI a + lastI b ≤ maxL := by unfold maxL; omega
  obtain ⟨l1, hl, _⟩ := joinG_lens ha hb hm
  have hlen : (joinG xs ys).length ≤ xs.length + ys.length + 1 := by
    unfold joinG; split
    · omega
    · split
      · omega
      · simp; omega
  have ok : gramOk (joinG xs ys) = true := by simp [gramOk, hl]; omega
  have e1 : joinOut xs ys = joinG xs ys := by simp [joinOut, limOut, hx, hy, ok]
  exact ⟨by simp [joinCode, limCode, hx, hy, ok], by rw [e1]; exact ok, by rw [e1]; exact joinG_word ha hb hm, by rw [e1]; exact hlen⟩
theorem powF_len (root : Int) : ∀ (ds : List UInt8) (L : List GRule), (ds.foldl (powStep root) L).length ≤ L.length + 2 * ds.length := by
  intro ds
  induction ds with
  | nil => intro L; simp
  | cons d ds ih =>
    intro L
    rw [List.foldl_cons]
    have h1 := ih (powStep root L d)
    have h2 : (powStep root L d).length ≤ L.length + 2 := by unfold powStep; split <;> simp
    rw [List.length_cons]; omega
theorem pow_two {xs : List GRule} {n k : Nat} (hx : gramOk xs = true) (h0 : 0 < xs.length) (hn : n < 2 ^ k) (hk : 1 ≤ k) (lx : xs.length + 2 * (k - 1) ≤ 400) (n1 : 1 ≤ n) (g : (n : Int) * gramLen xs ≤ 1000000000000000) :
    powCode xs n = 0 ∧ gramOk (powOut xs n) = true ∧ wordG (powOut xs n) = repW (wordG xs) n ∧ (powOut xs n).length ≤ xs.length + 2 * (k - 1) ∧ 0 < (powOut xs n).length := by
  obtain ⟨_, a, ha⟩ := gram_lens hx
  have ea := gramLen_of ha
  have hb := gramLen_bounds xs
  have hla := lastI_at ha h0
  have hpos := lens_pos' ha (r := xs.length - 1) (by omega)
  have hn2 : n ≤ 1000000000000000 := by
    have : (n : Int) * 1 ≤ n * gramLen xs := Int.mul_le_mul_of_nonneg_left (by omega) (by omega)
    omega
  have hl : ∃ l, lens (powG xs n) = some l := by
    unfold powG
    rw [if_neg (by omega)]
    obtain ⟨t, ht⟩ := binL_head n (by omega)
    have hv := binL_val n
    rw [ht, List.foldl_cons] at hv
    have h1 : digV 0 49 = 1 := by decide
    rw [h1] at hv
    rw [ht]
    have e0 : ((xs.length : Int) - 1) = ((xs.length - 1 : Nat) : Int) := by omega
    rw [e0]
    refine powFold_lens (c := lastI a) (by omega) t xs a 1 ha h0 (by omega) hla.symm (by omega) ?_
    rw [hv, ← ea]; unfold maxL; exact g
  obtain ⟨l, hl⟩ := hl
  have hlen : (powG xs n).length ≤ xs.length + 2 * (k - 1) := by
    have b1 := binL_len n k hn hk
    unfold powG
    rw [if_neg (by omega)]
    have b2 := powF_len ((xs.length : Int) - 1) (binL n).tail xs
    rw [List.length_tail] at b2; omega
  have hlen0 : 0 < (powG xs n).length := by
    rcases Nat.eq_zero_or_pos (powG xs n).length with z | z
    · exfalso
      have z2 := List.eq_nil_of_length_eq_zero z
      have w1 := powG_word ha hl
      rw [z2] at w1
      have w2 := congrArg List.length w1
      rw [repW_len] at w2
      have w3 := wordG_len ha
      have w4 : (wordG ([] : List GRule)).length = 0 := rfl
      rw [w4] at w2
      have w5 : 1 * 1 ≤ n * (wordG xs).length := Nat.mul_le_mul n1 (by omega)
      omega
    · exact z
  have ok : gramOk (powG xs n) = true := by simp [gramOk, hl]; omega
  have hin : inB (n : Int) 0 1000000000000000 = true := by simp [inB]; omega
  have e1 : powOut xs n = powG xs n := by simp [powOut, limOut, hx, hin, ok]
  exact ⟨by simp [powCode, limCode, hx, hin, ok], by rw [e1]; exact ok, by rw [e1]; exact powG_word ha hl, by rw [e1]; exact hlen, by rw [e1]; exact hlen0⟩
theorem repW_mul (w : List UInt8) (a : Nat) : ∀ b, repW (repW w a) b = repW w (a * b) := by
  intro b
  induction b with
  | zero => simp [repW]
  | succ b ih => rw [repW_add, ih, repW_one, Nat.mul_succ, repW_add]
def letL (c : UInt8) : List GRule := [⟨⟨#[c]⟩, 0, 0⟩]
theorem letL_ok {c : UInt8} (h : c = 99 ∨ c = 100) : gramOk (letL c) = true ∧ gramLen (letL c) = 1 ∧ wordG (letL c) = [c] := by
  rcases h with rfl | rfl
  · exact ⟨by decide, by decide, by decide⟩
  · exact ⟨by decide, by decide, by decide⟩
theorem long_pow {g : List GRule} {a b : Nat} (hg : gramOk g = true) (h0 : 0 < g.length) (lg : g.length ≤ 14) (gg : gramLen g ≤ 40) (ha : 1 ≤ a) (ha2 : a ≤ 200) (hb : 1 ≤ b) (hb2 : b ≤ 200) :
    powCode g a = 0 ∧ gramOk (powOut g a) = true ∧ (powOut g a).length ≤ 28 ∧ powCode (powOut g a) b = 0 ∧ gramOk (powOut (powOut g a) b) = true ∧ (powOut (powOut g a) b).length ≤ 42 ∧
    powCode g ((a * b : Nat) : Int) = 0 ∧ gramOk (powOut g ((a * b : Nat) : Int)) = true ∧ (powOut g ((a * b : Nat) : Int)).length ≤ 44 ∧ wordG (powOut (powOut g a) b) = wordG (powOut g ((a * b : Nat) : Int)) ∧ 1 ≤ gramLen (powOut g ((a * b : Nat) : Int)) ∧ gramLen (powOut g ((a * b : Nat) : Int)) ≤ 1600000 := by
  have hb0 := gramLen_bounds g
  have hab : a * b ≤ 200 * 200 := Nat.mul_le_mul ha2 hb2
  have hab1 : 1 * 1 ≤ a * b := Nat.mul_le_mul ha hb
  have m1 : (a : Int) * gramLen g ≤ 200 * 40 := Int.mul_le_mul (by omega) gg (by omega) (by omega)
  have m3 : ((a * b : Nat) : Int) * gramLen g ≤ 40000 * 40 := Int.mul_le_mul (by omega) gg (by omega) (by omega)
  obtain ⟨x1, x2, x3, x4, x5⟩ := pow_two (n := a) (k := 8) hg h0 (by omega) (by omega) (by omega) ha (by omega)
  have gx : gramLen (powOut g a) ≤ 8000 := by
    obtain ⟨_, l, hl⟩ := gram_lens x2
    obtain ⟨_, l', hl'⟩ := gram_lens hg
    have e1 := wordG_len hl
    have e2 := wordG_len hl'
    rw [gramLen_of hl, ← e1, x3, repW_len]
    rw [gramLen_of hl', ← e2] at m1
    have : ((a * (wordG g).length : Nat) : Int) = (a : Int) * ((wordG g).length : Nat) := by rw [Int.natCast_mul]
    omega
  have hbx := gramLen_bounds (powOut g a)
  have m2 : (b : Int) * gramLen (powOut g a) ≤ 200 * 8000 := Int.mul_le_mul (by omega) gx (by omega) (by omega)
  obtain ⟨y1, y2, y3, y4, y5⟩ := pow_two (n := b) (k := 8) x2 x5 (by omega) (by omega) (by omega) hb (by omega)
  obtain ⟨z1, z2, z3, z4, z5⟩ := pow_two (n := a * b) (k := 16) hg h0 (by omega) (by omega) (by omega) (by omega) (by omega)
  have gz : 1 ≤ gramLen (powOut g ((a * b : Nat) : Int)) ∧ gramLen (powOut g ((a * b : Nat) : Int)) ≤ 1600000 := by
    obtain ⟨_, l, hl⟩ := gram_lens z2
    obtain ⟨_, l', hl'⟩ := gram_lens hg
    have e1 := wordG_len hl
    have e2 := wordG_len hl'
    have q := (lens_pos' hl (r := (powOut g ((a * b : Nat) : Int)).length - 1) (by omega)).1
    have q2 := lastI_at hl z5
    rw [gramLen_of hl]
    refine ⟨by omega, ?_⟩
    rw [← e1, z3, repW_len]
    rw [gramLen_of hl', ← e2] at m3
    have : ((a * b * (wordG g).length : Nat) : Int) = ((a * b : Nat) : Int) * ((wordG g).length : Nat) := by rw [Int.natCast_mul]
    omega
  exact ⟨x1, x2, by omega, y1, y2, by omega, z1, z2, by omega, by rw [y3, x3, repW_mul, z3], gz.1, gz.2⟩
theorem long_back {z : List GRule} {k : Int} (hz : gramOk z = true) (lz : z.length ≤ 44) (k0 : 0 ≤ k) (kn : k ≤ gramLen z) :
    partCode z 0 k = 0 ∧ gramOk (partOut z 0 k) = true ∧ (partOut z 0 k).length ≤ 132 ∧ partCode z k (gramLen z) = 0 ∧ gramOk (partOut z k (gramLen z)) = true ∧ (partOut z k (gramLen z)).length ≤ 132 ∧
    joinCode (partOut z 0 k) (partOut z k (gramLen z)) = 0 ∧ gramOk (joinOut (partOut z 0 k) (partOut z k (gramLen z))) = true ∧ wordG (joinOut (partOut z 0 k) (partOut z k (gramLen z))) = wordG z ∧ (joinOut (partOut z 0 k) (partOut z k (gramLen z))).length ≤ 265 := by
  obtain ⟨_, l, hl⟩ := gram_lens hz
  have e1 := wordG_len hl
  have e2 := gramLen_of hl
  have hb := gramLen_bounds z
  obtain ⟨a1, a2, a3, a4⟩ := part_two (i := 0) (j := k) hz (by omega) (by omega) k0 kn
  obtain ⟨b1, b2, b3, b4⟩ := part_two (i := k) (j := gramLen z) hz (by omega) k0 kn (by omega)
  have c0 : cutL (wordG z) 0 k = (wordG z).take k.toNat := by simp [cutL]
  have c1 : cutL (wordG z) k (gramLen z) = (wordG z).drop k.toNat := by
    unfold cutL; rw [List.take_of_length_le (by omega)]
  have gA : gramLen (partOut z 0 k) + gramLen (partOut z k (gramLen z)) ≤ 1000000000000000 := by
    obtain ⟨_, la, hla⟩ := gram_lens a2
    obtain ⟨_, lb, hlb⟩ := gram_lens b2
    have f1 := wordG_len hla
    have f2 := wordG_len hlb
    rw [gramLen_of hla, gramLen_of hlb, ← f1, ← f2, a3, b3, c0, c1, List.length_take, List.length_drop]
    omega
  obtain ⟨j1, j2, j3, j4⟩ := join_two a2 b2 (by omega) gA
  exact ⟨a1, a2, by omega, b1, b2, by omega, j1, j2, by rw [j3, a3, b3, c0, c1, List.take_append_drop], by omega⟩
theorem long_other {z : List GRule} {k : Nat} {c : UInt8} (hz : gramOk z = true) (lz : z.length ≤ 44) (kn : (k : Int) < gramLen z) (hc : c = 99 ∨ c = 100) (hne : (wordG z).getD k 0 ≠ c) :
    partCode z (k + 1 : Nat) (gramLen z) = 0 ∧ gramOk (partOut z (k + 1 : Nat) (gramLen z)) = true ∧ (partOut z (k + 1 : Nat) (gramLen z)).length ≤ 132 ∧
    joinCode (partOut z 0 k) (letL c) = 0 ∧ gramOk (joinOut (partOut z 0 k) (letL c)) = true ∧ (joinOut (partOut z 0 k) (letL c)).length ≤ 134 ∧
    joinCode (joinOut (partOut z 0 k) (letL c)) (partOut z (k + 1 : Nat) (gramLen z)) = 0 ∧ gramOk (joinOut (joinOut (partOut z 0 k) (letL c)) (partOut z (k + 1 : Nat) (gramLen z))) = true ∧
    (joinOut (joinOut (partOut z 0 k) (letL c)) (partOut z (k + 1 : Nat) (gramLen z))).length ≤ 267 ∧
    gramLen (joinOut (joinOut (partOut z 0 k) (letL c)) (partOut z (k + 1 : Nat) (gramLen z))) = gramLen z ∧
    eqG (joinOut (joinOut (partOut z 0 k) (letL c)) (partOut z (k + 1 : Nat) (gramLen z))) z = false ∧
    ∀ m : Int, 0 ≤ m → ((prC (joinOut (joinOut (partOut z 0 k) (letL c)) (partOut z (k + 1 : Nat) (gramLen z))) 0 m = prC z 0 m) ↔ m ≤ (k : Int)) := by
  obtain ⟨_, l, hl⟩ := gram_lens hz
  have e1 := wordG_len hl
  have e2 := gramLen_of hl
  have hb := gramLen_bounds z
  have hk : k < (wordG z).length := by omega
  obtain ⟨a1, a2, a3, a4⟩ := part_two (i := 0) (j := k) hz (by omega) (by omega) (by omega) (by omega)
  obtain ⟨b1, b2, b3, b4⟩ := part_two (i := (k + 1 : Nat)) (j := gramLen z) hz (by omega) (by omega) (by omega) (by omega)
  obtain ⟨l1, l2, l3⟩ := letL_ok hc
  have c0 : cutL (wordG z) 0 k = (wordG z).take k := by simp [cutL]
  have c1 : cutL (wordG z) (k + 1 : Nat) (gramLen z) = (wordG z).drop (k + 1) := by
    unfold cutL; rw [List.take_of_length_le (by omega)]; rfl
  have glen : ∀ {x : List GRule}, gramOk x = true → gramLen x = ((wordG x).length : Nat) := fun {x} hx => by
    obtain ⟨_, lx, hlx⟩ := gram_lens hx
    rw [gramLen_of hlx, wordG_len hlx]
  have gA := glen a2
  rw [a3, c0, List.length_take] at gA
  have gB := glen b2
  rw [b3, c1, List.length_drop] at gB
  obtain ⟨j1, j2, j3, j4⟩ := join_two a2 l1 (by unfold letL; simp; omega) (by omega)
  have ll : (letL c).length = 1 := rfl
  have gJ := glen j2
  rw [j3, a3, l3, c0, List.length_append, List.length_take] at gJ
  simp only [List.length_cons, List.length_nil] at gJ
  obtain ⟨o1, o2, o3, o4⟩ := join_two j2 b2 (by omega) (by omega)
  have hw : wordG (joinOut (joinOut (partOut z 0 k) (letL c)) (partOut z (k + 1 : Nat) (gramLen z))) = (wordG z).take k ++ c :: (wordG z).drop (k + 1) := by
    rw [o3, j3, a3, b3, l3, c0, c1]; simp
  have hv : wordG z = (wordG z).take k ++ (wordG z).getD k 0 :: (wordG z).drop (k + 1) := by
    have d := List.drop_eq_getElem_cons hk
    rw [List.getD_eq_getElem?_getD, List.getElem?_eq_getElem hk, Option.getD_some, ← d, List.take_append_drop]
  have gO := glen o2
  have gZ := glen hz
  rw [hw, List.length_append, List.length_cons, List.length_take, List.length_drop] at gO
  refine ⟨b1, b2, by omega, j1, j2, by omega, o1, o2, by omega, by omega, eqG_not hw hv (Ne.symm hne), fun m h0 => ?_⟩
  have := prC_pre hw hv (Ne.symm hne) h0
  rw [List.length_take] at this
  rw [this]; omega
end Go.Proofs.YtfhiaifdigefdaaDoor
namespace Go.Proofs
open Go.Shelf
end Go.Proofs
namespace Go.Proofs.YtfhiaifdigefdaaDoor
open Go.RowKit
section
variable {α : Type} {E : Enc α} {w w1 w2 : World} {o : Obj} {v : Value} {xs : List α}
end
def ByteE : Enc UInt8 where
  size := 1
  pos := by decide
  cells := fun _ _ x cs => cs = [.int .u8 (x.toNat : Int)]
  len := by rintro _ _ _ _ rfl; rfl
  keep := fun h _ => h
  more := fun h _ => h
  one := by rintro _ _ _ _ rfl; simp [Value.oneCell']
def Src (w : World) (b N : Nat) : Prop :=
  ∃ (AC : Option Addr) (l : List UInt8) (cC a d : Nat), w.heap[b]? = some (.cells #[.slice AC l.length cC, .int .i64 (a : Int), .int .u64 (d : Int)] 78 (0, 0)) ∧ a ≤ N ∧ d < 18446744073709551616 ∧ Sl ByteE w b (.slice AC l.length cC) l
theorem Src.lt {w : World} {b N : Nat} (h : Src w b N) : b < w.heap.size := by
  obtain ⟨AC, l, cC, a, d, h, _⟩ := h
  exact (Array.getElem?_eq_some_iff.1 h).1
theorem Src.more {w : World} {b N M : Nat} (h : Src w b N) (hM : N ≤ M) : Src w b M := by
  obtain ⟨AC, l, cC, a, d, h, h1, h2⟩ := h
  exact ⟨AC, l, cC, a, d, h, Nat.le_trans h1 hM, h2⟩
theorem Src.keep {w w' : World} {b N : Nat} (h : Src w b N) (hb : Below w.heap.size w w') : Src w' b N := by
  have hlt := h.lt
  obtain ⟨AC, l, cC, a, d, h, h1, h2, h3⟩ := h
  exact ⟨AC, l, cC, a, d, (hb.block b hlt).trans h, h1, h2, h3.below (hb.mono (Nat.le_of_lt hlt))⟩
theorem u64_nat (n : Int) : ∃ d : Nat, IntKind.u64.wrap n = (d : Int) ∧ d < 18446744073709551616 := by
  rw [IntKind.wrap_u64]
  refine ⟨(n % 18446744073709551616).toNat, ?_, ?_⟩ <;> omega
theorem Src.stored {w w' : World} {b N a d : Nat} {AC : Option Addr} {l : List UInt8} {cC : Nat} {a' d' : Nat} (hbk : w.heap[b]? = some (.cells #[.slice AC l.length cC, .int .i64 (a : Int), .int .u64 (d : Int)] 78 (0, 0))) (hl : Sl ByteE w b (.slice AC l.length cC) l) (ha : a' ≤ N) (hd : d' < 18446744073709551616)
    (hw : ∃ n m, w' = (((w.drewN n).setCell ⟨b, 1, none⟩ (.int .i64 (a' : Int))).setCell ⟨b, 2, none⟩ (.int .u64 (d' : Int))).drewN m) : Src w' b N ∧ But b w w' := by
  obtain ⟨n, m, rfl⟩ := hw
  have hB : But b w ((((w.drewN n).setCell ⟨b, 1, none⟩ (.int .i64 (a' : Int))).setCell ⟨b, 2, none⟩ (.int .u64 (d' : Int))).drewN m) := ((((But.refl b w).drewN n).setCell _).setCell _).drewN m
  refine ⟨⟨AC, l, cC, a', d', ?_, ha, hd, hl.keep fun k hk => hB.block k (Nat.lt_trans hk (Array.getElem?_eq_some_iff.1 hbk).1) (Nat.ne_of_lt hk)⟩, hB⟩
  simp [World.setCell, World.drewN, Array.getElem?_modify, hbk]
theorem and255 (d : Nat) (hd : d < 18446744073709551616) : ∃ x : Nat, bits .and .u64 ((d : Int) / 1099511627776) 255 = (x : Int) ∧ x ≤ 255 := by
  refine ⟨(d / 1099511627776) &&& 255, ?_, Nat.and_le_right⟩
  have e : (d : Int) / 1099511627776 = ((d / 1099511627776 : Nat) : Int) := by rw [Int.natCast_ediv]; rfl
  rw [e]
  exact bits_and_u64_nat _ 255 (by omega) (by decide)
theorem from_any (v : Value) (l : List UInt8) (w : World) (h : Sl ByteE w w.heap.size v l) :
    Calls Tryd.prog 23 #[v] w fun r w' => ∃ b, r = .returned (.pointer (some ⟨b, 0, none⟩)) ∧ b = w.heap.size ∧ Src w' b 0 ∧ Below w.heap.size w w' := by
  have HS := Lib.hid h
  obtain ⟨A, c, rfl, hc1, hc2, _⟩ := h
  go_enter Tryd.func23, Tryd.ntmps23
  go_wp2
  go_ret
  have hb : Below w.heap.size w (w.alloc (.cells #[.slice A l.length c, .int .i64 0, .int .u64 0] 78)) := (Below.refl _ w).alloc (Nat.le_refl _) _
  exact ⟨_, rfl, rfl, ⟨A, l, c, 0, 0, heap_alloc_new w _, Nat.le_refl _, by decide, HS.out.below hb⟩, hb⟩
set_option maxRecDepth 100000 in
set_option maxHeartbeats 1000000 in
theorem next_any (b N : Nat) (w : World) (h : Src w b N) (hN : N ≤ 1000000) :
    Calls Tryd.prog 53 #[.pointer (some ⟨b, 0, none⟩)] w fun r w' => ∃ x : Nat, r = .returned (.int .i64 (x : Int)) ∧ x ≤ 255 ∧ Src w' b (N + 1) ∧ But b w w' := by
  obtain ⟨AC, l, cC, a, d, hbk, ha, hd, hl⟩ := h
  have c0 : w.cell? ⟨b, 0, none⟩ = some (.slice AC l.length cC) := by rw [Lib.cell_of_heap hbk]; rfl
  have c1 : w.cell? ⟨b, 1, none⟩ = some (.int .i64 (a : Int)) := by rw [Lib.cell_of_heap hbk]; rfl
  have c2 : w.cell? ⟨b, 2, none⟩ = some (.int .u64 (d : Int)) := by rw [Lib.cell_of_heap hbk]; rfl
  have f1 : w.frozen? ⟨b, 1, none⟩ = false := Lib.frozen_of_heap hbk 1
  have f2 : w.frozen? ⟨b, 2, none⟩ = false := Lib.frozen_of_heap hbk 2
  have HB := Lib.hid hbk
  have HL := Lib.hid hl
  obtain ⟨_, _, ev, hc1, hc2, hrow⟩ := hl
  clear hbk
  go_enter Tryd.func53, Tryd.ntmps53
  go_wp2_with fail
  go_quiet (fail)
  by_cases hlt : a < l.length
  · obtain ⟨bc, oc, rfl, hbc, hcs⟩ := hrow (by omega)
    obtain ⟨cs, hcs1, hcs2⟩ := hcs a l[a] (List.getElem?_eq_getElem hlt)
    have hcs1' : cs = [.int .u8 (l[a].toNat : Int)] := hcs1
    subst hcs1'
    have hcx := hcs2 0 _ rfl
    have e1 : oc + (a * ByteE.size + 0) = oc + a := by show oc + (a * 1 + 0) = oc + a; omega
    rw [e1] at hcx
    have hx := l[a].toNat_lt
    obtain ⟨x, hxe⟩ : ∃ x, l[a].toNat = x := ⟨_, rfl⟩
    rw [hxe] at hcx hx
    clear hcs hcs1 hcs2 hrow e1 hxe
    have hlI : (a : Int) < (l.length : Int) := by omega
    go_wp2_with fail
    go_quiet (fail)
    go_wp2_with fail
    obtain ⟨d2, hd2, hd2b⟩ := u64_nat (IntKind.u64.wrap (IntKind.u64.wrap ((d : Int) * 6364136223846793005) + (x : Int)) + 1442695040888963407)
    rw [hd2]
    have hle : ((a : Int) + 1) ≤ (l.length : Int) := by omega
    go_wp2_with fail
    go_quiet (fail)
    go_wp2_with fail
    go_ret
    refine ⟨x, rfl, by omega, ?_, ?_⟩
    · exact (Src.stored (N := N + 1) (a' := a + 1) HB.out HL.out (by omega) hd2b ⟨_, _, rfl⟩).1
    · exact (Src.stored (N := N + 1) (a' := a + 1) HB.out HL.out (by omega) hd2b ⟨_, _, rfl⟩).2
  · have hlI : ¬ (a : Int) < (l.length : Int) := by omega
    go_wp2_with fail
    obtain ⟨d2, hd2, hd2b⟩ := u64_nat (IntKind.u64.wrap (IntKind.u64.wrap ((d : Int) * 6364136223846793005)) + 1442695040888963407)
    rw [hd2]
    have hle : ¬ ((a : Int) + 1) ≤ (l.length : Int) := by omega
    obtain ⟨x, hx, hx2⟩ := and255 d2 hd2b
    go_wp2_with fail
    go_quiet (fail)
    go_wp2_with fail
    go_ret
    refine ⟨x, rfl, by omega, ?_, ?_⟩
    · exact (Src.stored (N := N + 1) (a' := a + 1) HB.out HL.out (by omega) hd2b ⟨_, _, rfl⟩).1
    · exact (Src.stored (N := N + 1) (a' := a + 1) HB.out HL.out (by omega) hd2b ⟨_, _, rfl⟩).2
def PickPost (b N : Nat) (n : Int) (w : World) (r : Ending) (w' : World) : Prop := ∃ x : Nat, r = .returned (.int .i64 (x : Int)) ∧ (x = 0 ∨ (x : Int) < n) ∧ x ≤ 65535 ∧ Src w' b (N + 2) ∧ But b w w'
set_option maxRecDepth 100000 in
theorem pick_any (b N : Nat) (n : Int) (w : World) (h : Src w b N) (hN : N ≤ 900000) :
    Calls Tryd.prog 33 #[.pointer (some ⟨b, 0, none⟩), .int .i64 n] w (PickPost b N n w) := by
  have HS := Lib.hid h
  clear h
  go_enter Tryd.func33, Tryd.ntmps33
  by_cases h1 : n ≤ 1
  · go_wp2_with fail
    go_ret
    exact ⟨0, rfl, .inl rfl, by omega, HS.out.more (by omega), But.refl b w⟩
  · go_wp2_with fail
    refine (next_any b N w HS.out (by omega)).mono ?_
    rintro r w1 ⟨x, rfl, hx, hs1, hb1⟩
    have H1 := Lib.hid hs1
    have B1 := Lib.hid hb1
    clear hs1 hb1
    obtain ⟨m, rfl⟩ := Int.eq_ofNat_of_zero_le (show 0 ≤ n by omega)
    have hm : ¬ (m : Int) = 0 := by omega
    by_cases h2 : (200 : Int) < m
    · go_wp2_with fail
      refine (next_any b (N + 1) w1 H1.out (by omega)).mono ?_
      rintro r w2 ⟨y, rfl, hy, hs2, hb2⟩
      have H2 := Lib.hid hs2
      have B2 := Lib.hid hb2
      clear hs2 hb2
      go_wp2_with fail
      go_ret
      refine ⟨(x * 256 + y) % m, ?_, .inr ?_, ?_, H2.out.more (by omega), B1.out.trans B2.out⟩
      · rfl
      · have := Nat.mod_lt (x * 256 + y) (show 0 < m by omega)
        omega
      · have := Nat.mod_le (x * 256 + y) m
        omega
    · go_wp2_with fail
      go_ret
      refine ⟨x % m, ?_, .inr ?_, ?_, H1.out.more (by omega), B1.out⟩
      · rfl
      · have := Nat.mod_lt x (show 0 < m by omega)
        omega
      · have := Nat.mod_le x m
        omega
theorem one_any (b N : Nat) (n : Int) (w : World) (h : Src w b N) (hN : N ≤ 900000) :
    Calls Tryd.prog 44 #[.pointer (some ⟨b, 0, none⟩), .int .i64 n] w fun r w' => ∃ t : Bool, r = .returned (.bool t) ∧ Src w' b (N + 2) ∧ But b w w' := by
  have HS := Lib.hid h
  clear h
  go_enter Tryd.func44, Tryd.ntmps44
  go_wp2_with fail
  refine (pick_any b N n w HS.out hN).mono ?_
  rintro r w1 ⟨x, rfl, _, _, hs1, hb1⟩
  have H1 := Lib.hid hs1
  have B1 := Lib.hid hb1
  clear hs1 hb1
  go_wp2_with fail
  go_ret
  exact ⟨_, rfl, H1.out, B1.out⟩
theorem But.keep {b : Nat} {w w' : World} (h : But b w w') : Keep (fun k => k ≠ b ∧ k < w.heap.size) w w' := fun k hk => h.block k hk.2 hk.1
theorem Src.keepB {w w' : World} {b N B : Nat} (h : Src w b N) (hb : Below B w w') (hB : b < B) : Src w' b N := by
  have hlt := h.lt
  obtain ⟨AC, l, cC, a, d, h, h1, h2, h3⟩ := h
  exact ⟨AC, l, cC, a, d, (hb.block b hB).trans h, h1, h2, h3.below (hb.mono (Nat.le_of_lt hB))⟩
theorem But.up {b B : Nat} {w w1 w2 : World} (h : But b w w1) (hb : Below B w1 w2) (hB : w.heap.size ≤ B) : But b w w2 :=
  ⟨hb.os.trans h.os, hb.tape.trans h.tape, hb.output.trans h.output, Nat.le_trans h.size hb.size, fun k hk hne => (hb.block k (Nat.lt_of_lt_of_le hk hB)).trans (h.block k hk hne)⟩
theorem Boxed.but {b B : Nat} {w w' : World} {t : TypeId} {v : Value} (h : Boxed w B t v) (hb : But b w w') (hne : B ≠ b) : Boxed w' B t v := (hb.block B (Array.getElem?_eq_some_iff.1 h).1 hne).trans h
theorem OwnRules.but {b base : Nat} {w w' : World} {v : Value} {l : List GRule} (h : OwnRules w base v l) (hb : But b w w') (hne : b < base) : OwnRules w' base v l := by
  unfold OwnRules at *
  obtain ⟨h1, h2⟩ := h
  refine ⟨h1, ?_⟩
  rcases h2 with h2 | ⟨g, cap, cur, h3, h4, h5, r⟩
  · exact .inl h2
  · exact .inr ⟨g, cap, cur, h3, h4, (hb.block g (Array.getElem?_eq_some_iff.1 h5).1 (by omega)).trans h5, r⟩
def letG (k : Nat) : List GRule := (List.range k).map fun j => ⟨⟨#[UInt8.ofNat (97 + j)]⟩, 0, 0⟩
theorem letG_len (k : Nat) : (letG k).length = k := by simp [letG]
theorem letG_succ (k : Nat) : letG (k + 1) = letG k ++ [⟨⟨#[UInt8.ofNat (97 + k)]⟩, 0, 0⟩] := by simp [letG, List.range_succ]
def DrawnOk (most : Int) (xs : List GRule) : Prop := gramOk xs = true ∧ 0 < xs.length ∧ (1 ≤ most → gramLen xs ≤ most) ∧ SmallL xs
def DrawnPost (b N : Nat) (most : Int) (w : World) (r : Ending) (w' : World) : Prop :=
  ∃ v xs, r = .returned (.agg #[v]) ∧ SlS RuleE w' (fun k => w.heap.size ≤ k ∧ k < w'.heap.size) v xs ∧ DrawnOk most xs ∧ xs.length ≤ 14 ∧ Src w' b (N + 200) ∧ But b w w'
theorem letG_own {w : World} {base : Nat} {A : Option Addr} {n c k : Nat} {t : ByteArray} (own : OwnRules w base (.slice A (letG k ++ ([⟨t, 0, 0⟩] : List GRule)).length c) (letG k ++ [⟨t, 0, 0⟩])) (ht : t = ⟨#[UInt8.ofNat (97 + k)]⟩) (hn : n = (letG k).length + 1 := by rfl) : OwnRules w base (.slice A n c) (letG (k + 1)) := by
  subst ht; subst hn
  rw [letG_succ]
  have e : (letG k ++ [(⟨⟨#[UInt8.ofNat (97 + k)]⟩, 0, 0⟩ : GRule)]).length = (letG k).length + 1 := by simp
  rw [← e]; exact own
theorem letG_ok (most : Int) (x : Nat) (hx : x ≤ 2) : DrawnOk most (letG (x + 1)) := by
  have h3 : x = 0 ∨ x = 1 ∨ x = 2 := by omega
  rcases h3 with rfl | rfl | rfl
  · refine ⟨by decide, by decide, fun h => ?_, ?_⟩
    · rw [show gramLen (letG (0 + 1)) = 1 by decide]; exact h
    · intro r hr; simp [letG, List.range_succ] at hr; subst hr; decide
  · refine ⟨by decide, by decide, fun h => ?_, ?_⟩
    · rw [show gramLen (letG (1 + 1)) = 1 by decide]; exact h
    · intro r hr; simp [letG, List.range_succ] at hr; rcases hr with rfl | rfl <;> decide
  · refine ⟨by decide, by decide, fun h => ?_, ?_⟩
    · rw [show gramLen (letG (2 + 1)) = 1 by decide]; exact h
    · intro r hr; simp [letG, List.range_succ] at hr; rcases hr with rfl | rfl | rfl <;> decide
structure DrSt (w : World) (b M : Nat) (wx : World) (v : Value) (xs : List GRule) : Prop where
  src : Src wx b M
  but : But b w wx
  b0 : Boxed wx w.heap.size 26 (.slice none 0 0)
  b1 : Boxed wx (w.heap.size + 1) 26 v
  own : OwnRules wx (w.heap.size + 2) v xs
theorem DrSt.pick {w wx w' : World} {b M M' : Nat} {v : Value} {xs : List GRule} (h : DrSt w b M wx v xs) (hb : But b wx w') (hs : Src w' b M') (hlt : b < w.heap.size) : DrSt w b M' w' v xs :=
  ⟨hs, h.but.trans hb, Boxed.but h.b0 hb (by omega), Boxed.but h.b1 hb (by omega), h.own.but hb (by omega)⟩
theorem DrSt.up {w wx w' : World} {b M : Nat} {v : Value} {xs : List GRule} (h : DrSt w b M wx v xs) (hb : Below wx.heap.size wx w') : DrSt w b M w' v xs :=
  ⟨h.src.keep hb, h.but.trans (But.of hb), Boxed.up h.b0 hb (Array.getElem?_eq_some_iff.1 h.b0).1, Boxed.up h.b1 hb (Array.getElem?_eq_some_iff.1 h.b1).1, h.own.below hb⟩
theorem DrSt.lt {w wx : World} {b M : Nat} {v : Value} {xs : List GRule} (h : DrSt w b M wx v xs) : w.heap.size + 1 < wx.heap.size := (Array.getElem?_eq_some_iff.1 h.b1).1
theorem DrSt.put {w wx w' : World} {b M : Nat} {v v' : Value} {xs ys : List GRule} (h : DrSt w b M wx v xs) (hlt : b < w.heap.size) (hb : Below (w.heap.size + 2) wx w') (own : OwnRules w' (w.heap.size + 2) v' ys) : DrSt w b M (w'.setCell ⟨w.heap.size + 1, 0, none⟩ v') v' ys := by
  have h0 : Boxed w' w.heap.size 26 (.slice none 0 0) := Boxed.up h.b0 hb (by omega)
  have h1 : Boxed w' (w.heap.size + 1) 26 v := Boxed.up h.b1 hb (by omega)
  have hb2 : Below (w.heap.size + 1) wx (w'.setCell ⟨w.heap.size + 1, 0, none⟩ v') := (hb.mono (Nat.le_succ _)).setCell (p := ⟨w.heap.size + 1, 0, none⟩) (Nat.le_refl _) _
  exact ⟨h.src.keepB hb2 (by omega), h.but.up hb2 (by omega), Boxed.up h.b0 hb2 (by omega), Boxed.set _ h1, ownsRow_setCell_other (a := ⟨w.heap.size + 1, 0, none⟩) own (Boxed.not_row h1 (by decide) own).symm _⟩
theorem heap_new' {w : World} {o : Obj} {k : Nat} (hk : k = w.heap.size) : (w.alloc o).heap[k]? = some o := by subst hk; exact heap_alloc_new w o
theorem heap_newD {w : World} {o : Obj} {k : Nat} (hk : k = w.heap.size) : (w.alloc o).drew.heap[k]? = some o := by subst hk; exact heap_alloc_new w o
theorem heap_drew {w : World} {o' : Obj} {k : Nat} (h : w.heap[k]? = some o') : w.drew.heap[k]? = some o' := h
theorem heap_up {w : World} {o o' : Obj} {k : Nat} (h : w.heap[k]? = some o') : (w.alloc o).heap[k]? = some o' := by
  have := (Array.getElem?_eq_some_iff.1 h).1
  rw [← h]; simp only [World.alloc]; rw [Array.getElem?_push_lt this, Array.getElem?_eq_getElem this]
theorem grown_at {w w' : World} {row : Option Nat} {k : Nat} {o : Obj} (hg : w.grownBy w' row) (h : w.heap[k]? = some o) (hne : some k ≠ row) : w'.heap[k]? = some o :=
  (Keep.of_grown hg k ⟨(Array.getElem?_eq_some_iff.1 h).1, hne⟩).trans h
theorem one_sl {w : World} {N : Nat} {t : ByteArray} {p q : Int} (h : w.heap[N]? = some (.cells #[.string t, .int .i64 p, .int .i64 q] 42 (0, 0))) : SlS RuleE w (fun _ => True) (.slice (some ⟨N, 0, none⟩) 1 1) [⟨t, p, q⟩] := by
  refine ⟨_, 1, rfl, Nat.le_refl _, by simp [maxLen], fun _ => ⟨N, 0, rfl, trivial, fun k r hk => ⟨r.cells, rfl, fun j u hu => ?_⟩⟩⟩
  have hk0 : k = 0 := by
    have := (List.getElem?_eq_some_iff.1 hk).1
    simp at this; exact this
  subst hk0
  simp at hk
  subst hk
  have hc := Lib.cell_of_heap h (0 + (0 * RuleE.size + j))
  rw [hc]
  simpa [GRule.cells] using hu
structure Boxed3 (w : World) (R : Nat) (t : ByteArray) (p q : Nat) : Prop where
  box : w.heap[R]? = some (.cells #[.string t, .int .i64 (p : Int), .int .i64 (q : Int)] 42 (0, 0))
theorem Boxed3.new (w : World) (t : ByteArray) (p q : Nat) : Boxed3 (w.alloc (.cells #[.string t, .int .i64 (p : Int), .int .i64 (q : Int)] 42)) w.heap.size t p q := ⟨heap_alloc_new w _⟩
theorem Boxed3.but {w w' : World} {R b : Nat} {t : ByteArray} {p q : Nat} (h : Boxed3 w R t p q) (hb : But b w w') (hne : R ≠ b) : Boxed3 w' R t p q := ⟨(hb.block R (Array.getElem?_eq_some_iff.1 h.box).1 hne).trans h.box⟩
theorem Boxed3.up {w w' : World} {R B : Nat} {t : ByteArray} {p q : Nat} (h : Boxed3 w R t p q) (hb : Below B w w') (hlt : R < B) : Boxed3 w' R t p q := ⟨(hb.block R hlt).trans h.box⟩
theorem Boxed3.c0 {w : World} {R : Nat} {t : ByteArray} {p q : Nat} (h : Boxed3 w R t p q) : w.cell? ⟨R, 0, none⟩ = some (.string t) := by rw [Lib.cell_of_heap h.box]; rfl
theorem Boxed3.c1 {w : World} {R : Nat} {t : ByteArray} {p q : Nat} (h : Boxed3 w R t p q) : w.cell? ⟨R, 1, none⟩ = some (.int .i64 (p : Int)) := by rw [Lib.cell_of_heap h.box]; rfl
theorem Boxed3.c2 {w : World} {R : Nat} {t : ByteArray} {p q : Nat} (h : Boxed3 w R t p q) : w.cell? ⟨R, 2, none⟩ = some (.int .i64 (q : Int)) := by rw [Lib.cell_of_heap h.box]; rfl
theorem Boxed3.f1 {w : World} {R : Nat} {t : ByteArray} {p q : Nat} (h : Boxed3 w R t p q) : w.frozen? ⟨R, 1, none⟩ = false := Lib.frozen_of_heap h.box 1
theorem Boxed3.f2 {w : World} {R : Nat} {t : ByteArray} {p q : Nat} (h : Boxed3 w R t p q) : w.frozen? ⟨R, 2, none⟩ = false := Lib.frozen_of_heap h.box 2
theorem Boxed3.set1 {w : World} {R : Nat} {t : ByteArray} {p q : Nat} (h : Boxed3 w R t p q) (n : Nat) : Boxed3 (w.setCell ⟨R, 1, none⟩ (.int .i64 (n : Int))) R t n q := ⟨by simp [World.setCell, Array.getElem?_modify, h.box]⟩
theorem Boxed3.set2 {w : World} {R : Nat} {t : ByteArray} {p q : Nat} (h : Boxed3 w R t p q) (n : Nat) : Boxed3 (w.setCell ⟨R, 2, none⟩ (.int .i64 (n : Int))) R t p n := ⟨by simp [World.setCell, Array.getElem?_modify, h.box]⟩
theorem keepDr {wc W : World} {p R : Nat} {v u0 u1 u2 : Value} (c : wc.cell? ⟨p, 0, none⟩ = some v) (hp : p < wc.heap.size) (r0 : wc.cell? ⟨R, 0, none⟩ = some u0) (r1 : wc.cell? ⟨R, 1, none⟩ = some u1) (r2 : wc.cell? ⟨R, 2, none⟩ = some u2) (hR : R < wc.heap.size) (h : Below wc.heap.size wc W) :
    Below wc.heap.size wc W ∧ W.cell? ⟨p, 0, none⟩ = some v ∧ W.cell? ⟨R, 0, none⟩ = some u0 ∧ W.cell? ⟨R, 1, none⟩ = some u1 ∧ W.cell? ⟨R, 2, none⟩ = some u2 := ⟨h, (h.cell hp).trans c, (h.cell hR).trans r0, (h.cell hR).trans r1, (h.cell hR).trans r2⟩
theorem DrSt.far {w wx : World} {b M R o : Nat} {v : Value} {xs : List GRule} (h : DrSt w b M wx v xs) (hlt : b < w.heap.size) (hR : w.heap.size + 2 ≤ R) (hne : ∀ g, v.ownBlock = some g → g ≠ R) (u : Value) : DrSt w b M (wx.setCell ⟨R, o, none⟩ u) v xs := by
  have hb : Below R wx (wx.setCell ⟨R, o, none⟩ u) := (Below.refl _ _).setCell (p := ⟨R, o, none⟩) (Nat.le_refl _) _
  refine ⟨h.src.keepB hb (by omega), h.but.up hb (by omega), Boxed.up h.b0 hb (by omega), Boxed.up h.b1 hb (by omega), ?_⟩
  exact ownsRow_setCell_other (a := ⟨R, o, none⟩) h.own (fun e => hne _ e rfl) _
theorem hkk {w w9 : World} {k g : Nat} {o : Obj} (hk : ∀ k o, w.heap[k]? = some o → k ≠ g → w9.heap[k]? = some o) (hne : k ≠ g) (h : w.heap[k]? = some o) : w9.heap[k]? = some o := hk k o h hne
theorem withL {P A B : Prop} (h : A → B) (ha : A) (k : B → P) : P := k (h ha)
theorem step_app0 {W : World} {ops : Array Oper} {o : Oper} {a : Act} {K : Act → World → Prop} {Q : Exit → Act → World → Prop} {E : Prop} (hgd : o.guard = none) (s x : Operand)
    (ho : o.op = .call { callee := .builtin .append, args := #[s, x], argTypes := #[24, 24] }) {ys : List GRule} {base g c2 : Nat} {A2 : Option Addr} {S : Nat → Prop}
    (hs : a.eval s = .slice (some ⟨g, 0, none⟩) 0 0) (hx : a.eval x = .slice A2 ys.length c2) (hg : W.heap[g]? = some (.cells #[] 42 (0, 0))) (hb : base ≤ g) (hsl : SlS RuleE W S (.slice A2 ys.length c2) ys) (hlen : ys.length ≤ 1099511627776)
    (h : ∀ A9 c9 w9, OwnRules w9 base (.slice A9 ys.length c9) ys → (∀ k o, W.heap[k]? = some o → k ≠ g → w9.heap[k]? = some o) → Below base W w9 → K (a.put o.dst (.slice A9 ys.length c9)) w9) :
    if Region.wanted o (yielded ops a.tmps) = true then Oper.wp Tryd.prog o a W K Q else E := by
  refine step_append_rules hgd s x ho (base := base) (l := []) hs hx ⟨rfl, .inr ⟨g, 0, #[], rfl, hb, hg, Nat.le_refl _, Nat.zero_le _, rfl, rfl⟩⟩ hsl (by simpa using hlen) (by have := (Array.getElem?_eq_some_iff.1 hg).1; omega) ?_
  intro v' w' own hgr hbl
  obtain ⟨A9, c9, rfl, _⟩ := own_nil own
  exact h A9 c9 w' own (fun k o hk hne => grown_at hgr hk (by simpa [Value.ownBlock] using hne)) hbl
theorem step_app1 {W : World} {ops : Array Oper} {o : Oper} {a : Act} {K : Act → World → Prop} {Q : Exit → Act → World → Prop} {E : Prop} (hgd : o.guard = none) (s x : Operand)
    (ho : o.op = .call { callee := .builtin .append, args := #[s, x], argTypes := #[24, 24] }) {l : List GRule} {t : ByteArray} {p q : Int} {base B c9 : Nat} {A9 : Option Addr}
    (hs : a.eval s = .slice A9 l.length c9) (hx : a.eval x = .slice (some ⟨B, 0, none⟩) 1 1) (hown : OwnRules W base (.slice A9 l.length c9) l) (hB : W.heap[B]? = some (.cells #[.string t, .int .i64 p, .int .i64 q] 42 (0, 0))) (hlen : l.length ≤ 1099511627775) (hbase : base ≤ W.heap.size)
    (h : ∀ A10 c10 w10, OwnRules w10 base (.slice A10 (l.length + 1) c10) (l ++ [⟨t, p, q⟩]) → (∀ k v, W.heap[k]? = some (.cells #[v] 26 (0, 0)) → Boxed w10 k 26 v) → Below base W w10 → K (a.put o.dst (.slice A10 (l.length + 1) c10)) w10) :
    if Region.wanted o (yielded ops a.tmps) = true then Oper.wp Tryd.prog o a W K Q else E := by
  refine step_append_rules hgd s x ho (base := base) (l := l) (ys := [⟨t, p, q⟩]) (S := fun _ => True) hs hx hown (one_sl hB) (by simp; omega) hbase ?_
  intro v' w' own hgr hbl
  obtain ⟨A9, c9, rfl, _⟩ := own_nil own
  have e : (l ++ [(⟨t, p, q⟩ : GRule)]).length = l.length + 1 := by simp
  rw [e] at own ⊢
  exact h A9 c9 w' own (fun k v hk => Boxed.kept hk hgr (Boxed.not_row hk (by decide) hown)) hbl
theorem drawn_post {w wx : World} {b N M : Nat} {most : Int} {v : Value} {xs : List GRule} (h : DrSt w b M wx v xs) (hlt : b < w.heap.size) (hM : M ≤ N + 200) (hok : DrawnOk most xs) (hl : xs.length ≤ 14) (u : Value) :
    DrawnPost b N most w (.returned (.agg #[v])) (wx.setCell ⟨w.heap.size, 0, none⟩ u) := by
  have hb2 : Below w.heap.size wx (wx.setCell ⟨w.heap.size, 0, none⟩ u) := (Below.refl _ _).setCell (p := ⟨w.heap.size, 0, none⟩) (Nat.le_refl _) _
  have own : OwnRules (wx.setCell ⟨w.heap.size, 0, none⟩ u) (w.heap.size + 2) v xs := ownsRow_setCell_other (a := ⟨w.heap.size, 0, none⟩) h.own (Boxed.not_row h.b0 (by decide) h.own).symm _
  refine ⟨v, xs, rfl, own.slS (fun g hg => ?_), hok, hl, (h.src.keepB hb2 hlt).more hM, h.but.up hb2 (Nat.le_refl _)⟩
  have := World.ownsRow.lt own g hg
  exact ⟨by omega, this.2⟩
set_option maxRecDepth 100000 in
set_option maxHeartbeats 40000000 in
theorem l02Drawn_any (b N : Nat) (most : Int) (w : World) (h : Src w b N) (hN : N ≤ 800000) :
    Calls Tryd.prog 22 #[.pointer (some ⟨b, 0, none⟩), .int .i64 most] w (DrawnPost b N most w) := by
  have hlt := h.lt
  have HS := Lib.hid h
  clear h
  go_enter Tryd.func22, Tryd.ntmps22
  go_wp2_with fail
  have hW0 : DrSt w b N ((w.alloc (.cells #[.slice none 0 0] 26)).alloc (.cells #[.slice none 0 0] 26)) (.slice none 0 0) [] := by
    have hb : Below w.heap.size w ((w.alloc (.cells #[.slice none 0 0] 26)).alloc (.cells #[.slice none 0 0] 26)) := ((Below.refl _ w).alloc (Nat.le_refl _) _).alloc (by simp) _
    refine ⟨HS.out.keep hb, But.of hb, ?_, ?_, World.ownsRow_nil _ _ _ _⟩
    · have h0 : Boxed (w.alloc (.cells #[.slice none 0 0] 26)) w.heap.size 26 (.slice none 0 0) := heap_alloc_new w _
      exact Boxed.up h0 ((Below.refl (w.heap.size + 1) _).alloc (by rw [World.size_alloc]; exact Nat.le_refl _) _) (Nat.lt_succ_self _)
    · have := heap_alloc_new (w.alloc (.cells #[.slice none 0 0] 26)) (.cells #[.slice none 0 0] 26)
      rw [World.size_alloc] at this
      exact this
  refine (pick_any b N 3 _ hW0.src (by omega)).mono ?_
  rintro r w1 ⟨x, rfl, hx, _, hs1, hb1⟩
  have H1 := Lib.hid (hW0.pick hb1 hs1 hlt)
  have hx3 : x ≤ 2 := by omega
  clear hW0 hs1 hb1 hx
  go_wp2_with fail
  go_loopw [7] (fun i wx => ∃ (k : Nat) (v : Value), k ≤ x + 1 ∧ i = .int .i64 (k : Int) ∧ DrSt w b (N + 2) wx v (letG k)) (fun i _ => x + 1 - (intOf i).toNat)
  case atStart => exact ⟨0, _, Nat.zero_le _, rfl, H1.out⟩
  case round =>
    obtain ⟨k, v, hk, rfl, hst⟩ := hrel
    have Hst := Lib.hid hst
    obtain ⟨A, c, rfl, _⟩ := own_nil hst.own
    have hcb := Boxed.cell hst.b1
    have hfb := Boxed.frozen hst.b1
    have hzr := hst.lt
    by_cases hlt1 : k < x + 1
    · have hlI : (k : Int) < 1 + (x : Int) := by omega
      have Hlen : Hid ((letG k).length ≤ 1099511627775) := by rw [Hid, letG_len]; omega
      clear hst
      have HA := Lib.hid (fun (o1 o2 : Obj) => ((Below.refl (w.heap.size + 2) wr).alloc (show w.heap.size + 2 ≤ wr.heap.size by omega) o1).alloc (by rw [World.size_alloc]; omega) o2)
      have hk3 : k = 0 ∨ k = 1 ∨ k = 2 := by omega
      rcases hk3 with rfl | rfl | rfl
      · have hcv := convB [97] wr.heap.size 0 1 1 (wr.alloc (.cells #[.int .u8 97] 5)) rfl (by
          intro t ht
          have : t = 0 := by simpa using ht
          subst this
          simp [go_sem])
        go_wp2_with (first
          | (at_builtin; refine list_push_rule (base := w.heap.size + 2) (t := ⟨#[97]⟩) (p := 0) (q := 0) rfl _ _ rfl rfl rfl (by simp) (Hst.out.own.alloc _) Hlen.out (by first | omega | (simp; done) | (simp; omega)) ?_; intro v3 w3 own3 hg3 hb3; obtain ⟨A3, c3, rfl, _⟩ := own_nil own3; have hb9 := (HA.out _ _).trans hb3; have bx3 := Boxed.up Hst.out.b1 hb9 (Nat.lt_succ_self _); have hcb3 := Boxed.cell bx3; have hfb3 := Boxed.frozen bx3))
        refine ⟨⟨1, _, by omega, rfl, Hst.out.put hlt hb9 (letG_own own3 rfl)⟩, by first | (simp [intOf]; done) | (simp [intOf]; omega)⟩
      · have hcv := convB [98] wr.heap.size 0 1 1 (wr.alloc (.cells #[.int .u8 98] 5)) rfl (by
          intro t ht
          have : t = 0 := by simpa using ht
          subst this
          simp [go_sem])
        go_wp2_with (first
          | (at_builtin; refine list_push_rule (base := w.heap.size + 2) (t := ⟨#[98]⟩) (p := 0) (q := 0) rfl _ _ rfl rfl rfl (by simp) (Hst.out.own.alloc _) Hlen.out (by first | omega | (simp; done) | (simp; omega)) ?_; intro v3 w3 own3 hg3 hb3; obtain ⟨A3, c3, rfl, _⟩ := own_nil own3; have hb9 := (HA.out _ _).trans hb3; have bx3 := Boxed.up Hst.out.b1 hb9 (Nat.lt_succ_self _); have hcb3 := Boxed.cell bx3; have hfb3 := Boxed.frozen bx3))
        refine ⟨⟨2, _, by omega, rfl, Hst.out.put hlt hb9 (letG_own own3 rfl)⟩, by first | (simp [intOf]; done) | (simp [intOf]; omega)⟩
      · have hcv := convB [99] wr.heap.size 0 1 1 (wr.alloc (.cells #[.int .u8 99] 5)) rfl (by
          intro t ht
          have : t = 0 := by simpa using ht
          subst this
          simp [go_sem])
        go_wp2_with (first
          | (at_builtin; refine list_push_rule (base := w.heap.size + 2) (t := ⟨#[99]⟩) (p := 0) (q := 0) rfl _ _ rfl rfl rfl (by simp) (Hst.out.own.alloc _) Hlen.out (by first | omega | (simp; done) | (simp; omega)) ?_; intro v3 w3 own3 hg3 hb3; obtain ⟨A3, c3, rfl, _⟩ := own_nil own3; have hb9 := (HA.out _ _).trans hb3; have bx3 := Boxed.up Hst.out.b1 hb9 (Nat.lt_succ_self _); have hcb3 := Boxed.cell bx3; have hfb3 := Boxed.frozen bx3))
        refine ⟨⟨3, _, by omega, rfl, Hst.out.put hlt hb9 (letG_own own3 rfl)⟩, by first | (simp [intOf]; done) | (simp [intOf]; omega)⟩
    · have hkx : k = x + 1 := by omega
      subst hkx
      have hlI : ¬ ((x + 1 : Nat) : Int) < 1 + (x : Int) := by omega
      have Hok := Lib.hid (letG_ok most x hx3)
      have Hl14 : Hid ((letG (x + 1)).length ≤ 3) := by rw [Hid, letG_len]; omega
      obtain ⟨X, hX⟩ : ∃ X, letG (x + 1) = X := ⟨_, rfl⟩
      rw [hX] at Hok Hl14 Hst
      have hXl : (letG (x + 1)).length = X.length := by rw [hX]
      clear hst hX hcb hfb hlI hzr H1
      go_wp2_with fail
      refine (pick_any b (N + 2) 12 _ Hst.out.src (by omega)).mono ?_
      rintro r w2 ⟨y, rfl, hy, _, hs2, hb2⟩
      have H2 := Lib.hid (Hst.out.pick hb2 hs2 hlt)
      have hy11 : y ≤ 11 := by omega
      clear Hst hs2 hb2 hy
      go_wp2_with fail
      go_loopw [8] (fun i wx => ∃ (k : Nat) (v : Value) (xs : List GRule), k ≤ y ∧ i = .int .i64 (k : Int) ∧ DrawnOk most xs ∧ xs.length + k ≤ 14 ∧ DrSt w b (N + 100 - 8 * k) wx v xs) (fun i _ => (intOf i).toNat)
      case atStart => exact ⟨y, _, X, Nat.le_refl _, rfl, Hok.out, by have := Hl14.out; omega, ⟨H2.out.src.more (by omega), H2.out.but, H2.out.b0, H2.out.b1, H2.out.own⟩⟩
      case round =>
        obtain ⟨k, v, xs, hk, rfl, hok, hlk, hst⟩ := hrel
        have Hst := Lib.hid hst
        have Hok := Lib.hid hok
        obtain ⟨A2, c2, rfl, _⟩ := own_nil hst.own
        have hcb := Boxed.cell hst.b1
        have hfb := Boxed.frozen hst.b1
        have hcb0 := Boxed.cell hst.b0
        have hfb0 := Boxed.frozen hst.b0
        have hzr := hst.lt
        by_cases hk0 : k = 0
        · subst hk0
          clear hst hok
          go_wp2_with fail
          refine bodyPost_ret (v := .agg #[.slice A2 xs.length c2]) (by simp [results, Tryd.results22, go_sem, hcb0]) rfl (drawn_post Hst.out hlt (by omega) Hok.out (by omega) _)
        · have hkI : (0 : Int) < (k : Int) := by omega
          have hn0 := hok.2.1
          clear hst hok
          go_upto_if 49 with (first
            | (go_at_call 33; refine (pick_any b _ xs.length _ Hst.out.src (by omega)).mono ?_; rintro r w3 ⟨p, rfl, hp, _, hs3, hb3⟩)
            | (go_at_call 33; refine (pick_any b _ xs.length _ hs3 (by omega)).mono ?_; rintro r w4 ⟨q, rfl, hq, _, hs4, hb4⟩)
            | (go_at_call 44; refine (one_any b _ 2 _ (hs4.keep ((Below.refl _ _).alloc (Nat.le_refl _) _)) (by omega)).mono ?_; rintro r w5 ⟨t5, rfl, hs5, hb5⟩))
          have hb4' := Boxed3.new w4 ⟨#[]⟩ p q
          have R5 : Boxed3 w5 w4.heap.size ⟨#[]⟩ p q := hb4'.but hb5 (by have := hb3.size; have := hb4.size; omega)
          have hst4 := (Hst.out.pick hb3 hs3 hlt).pick hb4 hs4 hlt
          have hst5 := (hst4.up ((Below.refl w4.heap.size w4).alloc (Nat.le_refl _) (.cells #[.string ⟨#[]⟩, .int .i64 (p : Int), .int .i64 (q : Int)] 42))).pick hb5 hs5 hlt
          have H5 := Lib.hid hst5
          have HR5 := Lib.hid R5
          have z4 : w.heap.size + 2 ≤ w4.heap.size := by have := hst4.lt; omega
          have hp2 : p < xs.length := by omega
          have hq2 : q < xs.length := by omega
          have hAR : ∀ g, (Value.slice A2 xs.length c2).ownBlock = some g → g ≠ w4.heap.size := fun g hg => by
            have h1 := (World.ownsRow.lt Hst.out.own g hg).2
            have h2 := hb3.size
            have h3 := hb4.size
            omega
          obtain ⟨R, hR⟩ : ∃ R, w4.heap.size = R := ⟨_, rfl⟩
          rw [hR] at HR5 z4 hAR
          rw [hR]
          have hrc := HR5.out.c1
          have hrf := HR5.out.f1
          have hnI : IntKind.i64.wrap ((xs.length : Int) - 1) = (xs.length : Int) - 1 := IntWalk.i64_in _ (by omega)
          clear hst4 hst5 R5 hb4' hs3 hs4 hs5 hb3 hb4 hb5 hR hcb hfb hcb0 hfb0 hp hq
          go_cut [] (fun wx => ∃ p2 : Nat, p2 < xs.length ∧ DrSt w b (N + 100 - 8 * k + 6) wx (.slice A2 xs.length c2) xs ∧ Boxed3 wx R ⟨#[]⟩ p2 q)
          case first =>
            cases t5 with
            | true =>
              go_wp2
              go_meet
              refine ⟨xs.length - 1, by omega, H5.out.far hlt z4 hAR _, ?_⟩
              have := HR5.out.set1 (xs.length - 1)
              rw [show ((xs.length - 1 : Nat) : Int) = (xs.length : Int) - 1 by omega] at this
              exact this
            | false =>
              go_wp2
              go_meet
              exact ⟨p, hp2, H5.out, HR5.out⟩
          case rest =>
            obtain ⟨p2, hpp, hst6, hbx6⟩ := hcut
            have H6 := Lib.hid hst6
            have HR6 := Lib.hid hbx6
            clear hst6 hbx6 hrc hrf H5 HR5 hp2
            go_upto_if 54 with (first
              | (go_at_call 44; refine (one_any b _ 3 _ H6.out.src (by omega)).mono ?_; rintro r w7 ⟨t7, rfl, hs7, hb7⟩))
            have hst7 := H6.out.pick hb7 hs7 hlt
            have hR7 := HR6.out.but hb7 (by omega)
            have H7 := Lib.hid hst7
            have HR7 := Lib.hid hR7
            have hrc := HR7.out.c2
            have hrf := HR7.out.f2
            clear hst7 hR7 hs7 hb7 H6 HR6
            go_cut [] (fun wx => ∃ q2 : Nat, q2 < xs.length ∧ DrSt w b (N + 100 - 8 * k + 8) wx (.slice A2 xs.length c2) xs ∧ Boxed3 wx R ⟨#[]⟩ p2 q2)
            case first =>
              cases t7 with
              | true =>
                go_wp2
                go_meet
                refine ⟨xs.length - 1, by omega, H7.out.far hlt z4 hAR _, ?_⟩
                have := HR7.out.set2 (xs.length - 1)
                rw [show ((xs.length - 1 : Nat) : Int) = (xs.length : Int) - 1 by omega] at this
                exact this
              | false =>
                go_wp2
                go_meet
                exact ⟨q, hq2, H7.out, HR7.out⟩
            case rest =>
              obtain ⟨q2, hqq, hst8, hbx8⟩ := hcut
              have H8 := Lib.hid hst8
              have HR8 := Lib.hid hbx8
              have hrc0 := hbx8.c0
              have hrc1 := hbx8.c1
              have hrc2 := hbx8.c2
              have hcb := Boxed.cell hst8.b1
              have hfb := Boxed.frozen hst8.b1
              clear hst8 hbx8 hrc hrf H7 HR7 hq2
              go_upto_region 16 with fail
              have HSl := Lib.hid H8.out.own.sl
              have hlt8 := H8.out.lt
              go_cut [11] (fun u11 wx => ∃ (L : Nat) (A3 : Option Addr) (c3 : Nat), u11 = .pointer (some ⟨L, 0, none⟩) ∧ w.heap.size + 2 ≤ L ∧ DrSt w b (N + 100 - 8 * k + 8) wx (.slice A2 xs.length c2) xs ∧ Boxed wx L 26 (.slice A3 (xs.length + 1) c3) ∧ OwnRules wx (w.heap.size + 2) (.slice A3 (xs.length + 1) c3) (xs ++ [⟨⟨#[]⟩, p2, q2⟩]))
              case first =>
                have hRlt : R < wc.heap.size := (Array.getElem?_eq_some_iff.1 HR8.out.box).1
                have HRlt := Lib.hid hRlt
                have hb1lt : w.heap.size + 1 < wc.heap.size := by omega
                have HX := Lib.hid (show xs.length ≤ 1099511627775 by omega)
                have HCB := Lib.hid hcb
                have HRC0 := Lib.hid hrc0
                have HRC1 := Lib.hid hrc1
                have HRC2 := Lib.hid hrc2
                go_region_held3 (fun w' => Below wc.heap.size wc w' ∧ w'.cell? ⟨w.heap.size + 1, 0, none⟩ = some (.slice A2 xs.length c2) ∧ w'.cell? ⟨R, 0, none⟩ = some (.string ⟨#[]⟩) ∧ w'.cell? ⟨R, 1, none⟩ = some (.int .i64 (p2 : Int)) ∧ w'.cell? ⟨R, 2, none⟩ = some (.int .i64 (q2 : Int)))
                  (first | (with_reducible refine keepDr HCB.out hb1lt HRC0.out HRC1.out HRC2.out HRlt.out ?_; (repeat (first | exact B10 | exact B9 | exact Below.refl _ _ | refine Below.drew ?_ | (refine Below.setCell ?_ (by first | exact Nat.le_refl _ | (show _ ≤ _; omega) | (simp; done) | (simp; omega)) _) | (refine Below.alloc ?_ (by first | omega | (simp; done) | (simp; omega)) _)))))
                  (first
                    | ((fail_if_success (have hx9 := B9)); refine step_app0 (base := wc.heap.size) (ys := xs) (S := fun k => k < wc.heap.size) (by rfl) _ _ (by rfl) (by rfl) (by rfl) (by ((repeat (first | (with_reducible assumption) | ((with_reducible refine heap_newD ?_); (focus (first | (exact (World.size_alloc _ _).symm) | (simp; done) | (simp; omega)))) | ((with_reducible refine heap_new' ?_); (focus (first | (exact (World.size_alloc _ _).symm) | (simp; done) | (simp; omega)))) | (with_reducible apply heap_drew) | (with_reducible apply heap_up) | ((with_reducible refine hkk hk9 ?_ ?_); (focus (first | (simp; done) | (simp; omega) | omega))))); all_goals fail "left")) (by first | omega | (simp; done)) (HSl.out.keep (Keep.of_below (by (repeat (first | (with_reducible exact B9) | (with_reducible exact Below.refl _ _) | with_reducible refine Below.drew ?_ | (with_reducible refine Below.alloc ?_ (by first | omega | (simp; done) | (simp; omega)) _)))))) (Nat.le_succ_of_le HX.out) ?_; intro A9 c9 w9 own9 hk9 hb9; have B9 : Below wc.heap.size wc w9 := Below.trans (by (repeat (first | (with_reducible exact B9) | (with_reducible exact Below.refl _ _) | with_reducible refine Below.drew ?_ | (with_reducible refine Below.alloc ?_ (by first | omega | (simp; done) | (simp; omega)) _)))) hb9; have hs9 := B9.size)
                    | ((fail_if_success (have hx10 := B10)); refine step_app1 (base := wc.heap.size) (l := xs) (by rfl) _ _ (by rfl) (by rfl) (by rfl) (by (repeat (first | (with_reducible exact own9) | with_reducible apply OwnRules.drew | with_reducible apply OwnRules.alloc))) (by ((repeat (first | (with_reducible assumption) | ((with_reducible refine heap_newD ?_); (focus (first | (exact (World.size_alloc _ _).symm) | (simp; done) | (simp; omega)))) | ((with_reducible refine heap_new' ?_); (focus (first | (exact (World.size_alloc _ _).symm) | (simp; done) | (simp; omega)))) | (with_reducible apply heap_drew) | (with_reducible apply heap_up) | ((with_reducible refine hkk hk9 ?_ ?_); (focus (first | (simp; done) | (simp; omega) | omega))))); all_goals fail "left")) HX.out (by first | exact hs9 | (simp; omega)) ?_; intro A10 c10 w10 own10 hk10 hb10; have B10 : Below wc.heap.size wc w10 := Below.trans (by (repeat (first | (with_reducible exact B9) | (with_reducible exact Below.refl _ _) | with_reducible refine Below.drew ?_ | (with_reducible refine Below.alloc ?_ (by first | omega | (simp; done) | (simp; omega)) _)))) hb10; have hs10 := B10.size; (try (refine withL (hk10 (wc.heap.size) (.slice none 0 0)) ?_ ?_; (focus ((repeat (first | (with_reducible assumption) | ((with_reducible refine heap_newD ?_); (focus (first | (exact (World.size_alloc _ _).symm) | (simp; done) | (simp; omega)))) | ((with_reducible refine heap_new' ?_); (focus (first | (exact (World.size_alloc _ _).symm) | (simp; done) | (simp; omega)))) | (with_reducible apply heap_drew) | (with_reducible apply heap_up) | ((with_reducible refine hkk hk9 ?_ ?_); (focus (first | (simp; done) | (simp; omega) | omega))))); all_goals fail "left")); intro bL10; have hcL := Boxed.cell bL10; have hfL := Boxed.frozen bL10; have hlL := (Array.getElem?_eq_some_iff.1 bL10).1)); (try (refine withL (hk10 (wc.heap.size + 1) (.slice none 0 0)) ?_ ?_; (focus ((repeat (first | (with_reducible assumption) | ((with_reducible refine heap_newD ?_); (focus (first | (exact (World.size_alloc _ _).symm) | (simp; done) | (simp; omega)))) | ((with_reducible refine heap_new' ?_); (focus (first | (exact (World.size_alloc _ _).symm) | (simp; done) | (simp; omega)))) | (with_reducible apply heap_drew) | (with_reducible apply heap_up) | ((with_reducible refine hkk hk9 ?_ ?_); (focus (first | (simp; done) | (simp; omega) | omega))))); all_goals fail "left")); intro bL10; have hcL := Boxed.cell bL10; have hfL := Boxed.frozen bL10; have hlL := (Array.getElem?_eq_some_iff.1 bL10).1)); (try (refine withL (hk10 (wc.heap.size + 1 + 1) (.slice none 0 0)) ?_ ?_; (focus ((repeat (first | (with_reducible assumption) | ((with_reducible refine heap_newD ?_); (focus (first | (exact (World.size_alloc _ _).symm) | (simp; done) | (simp; omega)))) | ((with_reducible refine heap_new' ?_); (focus (first | (exact (World.size_alloc _ _).symm) | (simp; done) | (simp; omega)))) | (with_reducible apply heap_drew) | (with_reducible apply heap_up) | ((with_reducible refine hkk hk9 ?_ ?_); (focus (first | (simp; done) | (simp; omega) | omega))))); all_goals fail "left")); intro bL10; have hcL := Boxed.cell bL10; have hfL := Boxed.frozen bL10; have hlL := (Array.getElem?_eq_some_iff.1 bL10).1)); (try (refine withL (hk10 (w9.heap.size) (.slice none 0 0)) ?_ ?_; (focus ((repeat (first | (with_reducible assumption) | ((with_reducible refine heap_newD ?_); (focus (first | (exact (World.size_alloc _ _).symm) | (simp; done) | (simp; omega)))) | ((with_reducible refine heap_new' ?_); (focus (first | (exact (World.size_alloc _ _).symm) | (simp; done) | (simp; omega)))) | (with_reducible apply heap_drew) | (with_reducible apply heap_up) | ((with_reducible refine hkk hk9 ?_ ?_); (focus (first | (simp; done) | (simp; omega) | omega))))); all_goals fail "left")); intro bL10; have hcL := Boxed.cell bL10; have hfL := Boxed.frozen bL10; have hlL := (Array.getElem?_eq_some_iff.1 bL10).1)); (try (refine withL (hk10 (w9.heap.size + 1) (.slice none 0 0)) ?_ ?_; (focus ((repeat (first | (with_reducible assumption) | ((with_reducible refine heap_newD ?_); (focus (first | (exact (World.size_alloc _ _).symm) | (simp; done) | (simp; omega)))) | ((with_reducible refine heap_new' ?_); (focus (first | (exact (World.size_alloc _ _).symm) | (simp; done) | (simp; omega)))) | (with_reducible apply heap_drew) | (with_reducible apply heap_up) | ((with_reducible refine hkk hk9 ?_ ?_); (focus (first | (simp; done) | (simp; omega) | omega))))); all_goals fail "left")); intro bL10; have hcL := Boxed.cell bL10; have hfL := Boxed.frozen bL10; have hlL := (Array.getElem?_eq_some_iff.1 bL10).1))))
                all_goals
                  go_wp2_with fail
                  go_meet
                  have o10 := ownsRow_more own10 (base' := w.heap.size + 2) (by omega)
                  first
                    | exact ⟨w10.heap.size, A10, c10, rfl, by omega, H8.out.up (B10.alloc hs10 _), heap_alloc_new _ _, World.ownsRow.alloc o10 _⟩
                    | exact ⟨_, A10, c10, rfl, by omega, H8.out.up (B10.setCell (by (try dsimp only); omega) _), Boxed.set _ bL10, ownsRow_setCell_other o10 (Boxed.not_row bL10 (by decide) own10).symm _⟩
              case rest =>
                obtain ⟨L, A3, c3, rfl, hL, hst9, hbx9, own9⟩ := hcut
                have hsmY : SmallL (xs ++ [(⟨⟨#[]⟩, (p2 : Int), (q2 : Int)⟩ : GRule)]) := by
                  intro r hr
                  rcases List.mem_append.1 hr with hr | hr
                  · exact Hok.out.2.2.2 r hr
                  · rw [List.mem_singleton] at hr; subst hr; show (0 : Nat) ≤ _; decide
                obtain ⟨Y, hY⟩ : ∃ Y, xs ++ [(⟨⟨#[]⟩, (p2 : Int), (q2 : Int)⟩ : GRule)] = Y := ⟨_, rfl⟩
                have hYl : Y.length = xs.length + 1 := by rw [← hY]; simp
                rw [hY] at own9 hsmY
                rw [← hYl] at own9 hbx9
                have H9 := Lib.hid hst9
                have HB9 := Lib.hid hbx9
                have HO9 := Lib.hid own9
                have HSY := Lib.hid (OwnRules.sl own9)
                have HsmY := Lib.hid hsmY
                have hcY := Boxed.cell hbx9
                have hLlt := (Array.getElem?_eq_some_iff.1 hbx9).1
                clear hst9 hbx9 own9 H8 HR8 HSl hrc0 hrc1 hrc2 hcb hfb hlt8 hsmY hY
                cases hg : gramOk Y with
                | false =>
                  go_wp2_with (first
                    | (go_at_call 32; (refine (l02Ok_any L 0 _ Y _ hcY hLlt HSY.out HsmY.out).mono ?_); rintro r w11 ⟨hr, hb11⟩; rw [hg] at hr; subst hr; have H11 := Lib.hid (H9.out.up hb11); have hcb1 := Boxed.cell H11.out.b1; have hfb1 := Boxed.frozen H11.out.b1; have hcb0 := Boxed.cell H11.out.b0; have hfb0 := Boxed.frozen H11.out.b0))
                  refine bodyPost_ret (v := .agg #[.slice A2 xs.length c2]) (by simp [results, Tryd.results22, go_sem, hcb0]) rfl (drawn_post H11.out hlt (by omega) Hok.out (by omega) _)
                | true =>
                  obtain ⟨_, ls, hls⟩ := gram_lens hg
                  have hgl := gramLen_of hls
                  by_cases hmo : lastI ls ≤ most
                  · have hmI : ¬ most < lastI ls := by omega
                    go_wp2_with (first
                      | (go_at_call 32; (refine (l02Ok_any L 0 _ Y _ hcY hLlt HSY.out HsmY.out).mono ?_); rintro r w11 ⟨hr, hb11⟩; rw [hg] at hr; subst hr; have H11 := Lib.hid (H9.out.up hb11); have hcY1 := (hb11.cell (p := ⟨L, 0, none⟩) hLlt).trans hcY; have hLlt1 := Nat.lt_of_lt_of_le hLlt hb11.size; have HSY1 := Lib.hid (HSY.out.up hb11))
                      | (go_at_call 45; (refine (l02Length_any L 0 _ Y ls _ hls hcY1 hLlt1 HSY1.out HsmY.out (by omega)).mono ?_); rintro r w12 ⟨rfl, hb12⟩; have H12 := Lib.hid (H11.out.up hb12); have hcY2 := (hb12.cell (p := ⟨L, 0, none⟩) hLlt1).trans hcY1; have hcb1 := Boxed.cell H12.out.b1; have hfb1 := Boxed.frozen H12.out.b1))
                    have o12 := (HO9.out.below hb11).below hb12
                    rw [hYl] at o12
                    have s12 := H12.out.put hlt (Below.refl _ _) o12
                    rw [show N + 100 - 8 * k + 8 = N + 100 - 8 * (k - 1) by omega] at s12
                    exact ⟨⟨k - 1, _, Y, by omega, by rw [show ((k - 1 : Nat) : Int) = (k : Int) - 1 by omega], ⟨hg, by omega, fun _ => by rw [hgl]; exact hmo, HsmY.out⟩, by omega, s12⟩, by first | (simp [intOf]; done) | (simp [intOf]; omega)⟩
                  · have hmI : most < lastI ls := by omega
                    go_wp2_with (first
                      | (go_at_call 32; (refine (l02Ok_any L 0 _ Y _ hcY hLlt HSY.out HsmY.out).mono ?_); rintro r w11 ⟨hr, hb11⟩; rw [hg] at hr; subst hr; have H11 := Lib.hid (H9.out.up hb11); have hcY1 := (hb11.cell (p := ⟨L, 0, none⟩) hLlt).trans hcY; have hLlt1 := Nat.lt_of_lt_of_le hLlt hb11.size; have HSY1 := Lib.hid (HSY.out.up hb11))
                      | (go_at_call 45; (refine (l02Length_any L 0 _ Y ls _ hls hcY1 hLlt1 HSY1.out HsmY.out (by omega)).mono ?_); rintro r w12 ⟨rfl, hb12⟩; have H12 := Lib.hid (H11.out.up hb12); have hcb1 := Boxed.cell H12.out.b1; have hfb1 := Boxed.frozen H12.out.b1; have hcb0 := Boxed.cell H12.out.b0; have hfb0 := Boxed.frozen H12.out.b0))
                    refine bodyPost_ret (v := .agg #[.slice A2 xs.length c2]) (by simp [results, Tryd.results22, go_sem, hcb0]) rfl (drawn_post H12.out hlt (by omega) Hok.out (by omega) _)
section
variable {w wx w' : World} {b M M' E : Nat} {k i j q : Int} {vP : Value} {xs : List GRule} {m : ByteArray}
end
set_option maxRecDepth 100000 in
theorem a2Long_any (v v' : Value) (l l' : List UInt8) (w : World) (h : Sl ByteE w w.heap.size v l) (h' : Sl ByteE w w.heap.size v' l') :
    Calls Tryd.prog 5 #[v, v'] w fun e w' => e = .returned (.bool (decide ((3000 : Int) < l.length) || decide ((3000 : Int) < l'.length))) ∧ w = w' := by
  obtain ⟨A, c, rfl, _⟩ := h
  obtain ⟨A', c', rfl, _⟩ := h'
  by_cases h1 : (3000 : Int) < (l.length : Int)
  · go_enter Tryd.func5, Tryd.ntmps5
    go_wp2_with fail
    go_ret
    exact ⟨ret_bool (by simp [h1]), rfl⟩
  · have e1 : decide ((3000 : Int) < (l.length : Int)) = false := by simp; omega
    go_enter Tryd.func5, Tryd.ntmps5
    go_wp2_with fail
    go_ret
    exact ⟨ret_bool (by first | rfl | (simp [e1]; done) | simp), rfl⟩
theorem a2At_any (v : Value) (l : List UInt8) (i n : Int) (w : World) (h : Sl ByteE w w.heap.size v l) (hi : 0 ≤ i) (hn : n ≤ 1000000000000000) :
    Calls Tryd.prog 7 #[v, .int .i64 i, .int .i64 n] w fun e w' => ∃ x : Int, e = .returned (.int .i64 x) ∧ 0 ≤ x ∧ (x = 0 ∨ x < n) ∧ w = w' := by
  have HL := Lib.hid h
  obtain ⟨A, c, rfl, _⟩ := h
  obtain ⟨i, rfl⟩ := Int.eq_ofNat_of_zero_le hi
  by_cases h1 : (l.length : Int) ≤ (i : Int)
  · go_enter Tryd.func7, Tryd.ntmps7
    go_wp2_with fail
    go_ret
    exact ⟨0, rfl, by omega, .inl rfl, rfl⟩
  · by_cases h2 : n < 1
    · go_enter Tryd.func7, Tryd.ntmps7
      go_wp2_with fail
      go_ret
      exact ⟨0, rfl, by omega, .inl rfl, rfl⟩
    · obtain ⟨m, rfl⟩ := Int.eq_ofNat_of_zero_le (show 0 ≤ n by omega)
      have hm0 : ¬ (m : Int) = 0 := by omega
      obtain ⟨_, _, ev, _, _, hrow⟩ := HL.out
      injection ev with ev1 ev2 ev3
      subst ev1
      obtain ⟨bc, oc, rfl, hbc, hcs⟩ := hrow (by omega)
      have hlt : i < l.length := by omega
      obtain ⟨cs, hcs1, hcs2⟩ := hcs i l[i] (List.getElem?_eq_getElem hlt)
      have hcs1' : cs = [.int .u8 (l[i].toNat : Int)] := hcs1
      subst hcs1'
      have hcx := hcs2 0 _ rfl
      have e1 : oc + (i * ByteE.size + 0) = oc + i := by show oc + (i * 1 + 0) = oc + i; omega
      rw [e1] at hcx
      have hb := l[i].toNat_lt
      obtain ⟨z, hz⟩ : ∃ z : Nat, l[i].toNat = z := ⟨_, rfl⟩
      rw [hz] at hcx hb
      clear hcs hcs1 hcs2 hrow e1 hz
      go_enter Tryd.func7, Tryd.ntmps7
      go_wp2_with fail
      go_ret
      refine ⟨((z % m : Nat) : Int), rfl, by omega, .inr ?_, rfl⟩
      have := Nat.mod_lt z (show 0 < m by omega)
      omega
theorem A2Grammar_any (v : Value) (l : List UInt8) (most : Int) (w : World) (h : Sl ByteE w w.heap.size v l) :
    Calls Tryd.prog 6 #[v, .int .i64 most] w fun e w' => ∃ u xs, e = .returned (.agg #[u]) ∧ Sl RuleE w' w'.heap.size u xs ∧ DrawnOk most xs ∧ xs.length ≤ 14 ∧ Below w.heap.size w w' := by
  have HL := Lib.hid h
  obtain ⟨A, c, rfl, _⟩ := h
  go_enter Tryd.func6, Tryd.ntmps6
  go_wp2_with fail
  have ba := (Below.refl _ w).alloc (Nat.le_refl _) (.cells #[.slice none 0 0] 26)
  refine (from_any _ l _ (HL.out.up ba)).mono ?_
  rintro r w1 ⟨b, rfl, hb, hs, hb1⟩
  have KR1 := Lib.hid (Blk.up (Blk.new w #[.slice none 0 0] 26) hb1)
  have hbz : w.heap.size < b := by simp at hb; omega
  have HS := Lib.hid hs
  have HB := Lib.hid (ba.trans (hb1.mono ba.size))
  have hz1 : w.heap.size < w1.heap.size := KR1.out.lt
  clear hs hb1 ba hb
  go_wp2_with fail
  refine (l02Drawn_any b 0 most _ HS.out (by omega)).mono ?_
  rintro r w2 ⟨u, xs, rfl, hsl, hok, hl, _, hb2⟩
  have KR2 := KR1.out.but hb2 (by omega)
  have cR := Blk.cell (i := 0) (v := .slice none 0 0) KR2 rfl
  have zR := Blk.frozen KR2 0
  have hz2 := hb2.size
  have HB2 := Lib.hid (HB.out.trans (hb2.below (B := w.heap.size) (by omega) (by omega)))
  have HSL := Lib.hid hsl
  clear hsl hb2 KR2
  obtain ⟨AX, cX, rfl, _⟩ := HSL.out
  go_wp2_with fail
  exact bodyPost_ret (v := .agg #[.slice AX xs.length cX]) (by simp [results, Tryd.results6, go_sem, cR]) rfl
    ⟨_, xs, rfl, (HSL.out.keep fun k hk => Below.heap_setCell w2 ⟨w.heap.size, 0, none⟩ _ k (by show k ≠ w.heap.size; omega)).more fun k hk => by simpa using hk.2, hok, hl, HB2.out.setCell (p := ⟨w.heap.size, 0, none⟩) (Nat.le_refl _) _⟩
def comO (xs ys : List GRule) (i j : Int) (m : Nat) : Bool := decide (prC xs i (i + (m : Int)) = prC ys j (j + (m : Int)))
theorem commonB_end (of : Nat → Bool) {f a b : Nat} (h : ¬ a < b) : commonB of f a b = a := by
  cases f with
  | zero => rfl
  | succ f => rw [commonB, if_neg h]
theorem commonB_yes (of : Nat → Bool) {f a b m : Nat} (h : a < b) (hm : (a + b + 1) / 2 = m) (ho : of m = true) : commonB of (f + 1) a b = commonB of f m b := by
  rw [commonB, if_pos h, hm, if_pos ho]
theorem commonB_no (of : Nat → Bool) {f a b m : Nat} (h : a < b) (hm : (a + b + 1) / 2 = m) (ho : of m = false) : commonB of (f + 1) a b = commonB of f a (m - 1) := by
  rw [commonB, if_pos h, hm, if_neg (by rw [ho]; decide)]
set_option maxRecDepth 100000 in
set_option maxHeartbeats 2000000 in
theorem common_any (P Q : Nat) (xs ys : List GRule) (i j : Int) (n : Nat) (w : World) (h : WvP w P xs) (h' : WvP w Q ys) (hi : 0 ≤ i) (hi9 : i ≤ gramLen xs) (hj : 0 ≤ j) (hj9 : j ≤ gramLen ys)
    (hn : (n : Int) = min (gramLen xs - i) (gramLen ys - j)) :
    Calls Tryd.prog 37 #[.pointer (some ⟨P, 0, none⟩), .int .i64 i, .pointer (some ⟨Q, 0, none⟩), .int .i64 j] w fun e w' => e = .returned (.int .i64 (commonB (comO xs ys i j) n 0 n : Nat)) ∧ Below w.heap.size w w' := by
  have HP := Lib.hid h
  have HQ := Lib.hid h'
  have hbx := gram_len_bd xs
  have hby := gram_len_bd ys
  have HN := Lib.hid hn
  have hn9 : n ≤ 1000000000000000 := by omega
  obtain ⟨a, ha⟩ : ∃ a, gramLen xs = a := ⟨_, rfl⟩
  obtain ⟨b, hb⟩ : ∃ b, gramLen ys = b := ⟨_, rfl⟩
  have HA := Lib.hid ha
  have HB := Lib.hid hb
  rw [ha] at hbx hi9
  rw [hb] at hby hj9
  have i9 : i ≤ 1000000000000000 := by omega
  have j9 : j ≤ 1000000000000000 := by omega
  clear h h' hn ha hb
  go_enter Tryd.func37, Tryd.ntmps37
  go_wp2_with fail
  refine (wvLength_any P xs _ HP.out).mono ?_
  rintro e w1 ⟨rfl, hb1⟩
  rw [HA.out]
  have HB1 := Lib.hid hb1
  clear hb1
  have wr1 : IntKind.i64.wrap (a - i) = a - i := IntWalk.i64_in _ (by omega)
  have wr2 : IntKind.i64.wrap (b - j) = b - j := IntWalk.i64_in _ (by omega)
  go_wp2_with fail
  refine (wvLength_any Q ys _ (HQ.out.up HB1.out)).mono ?_
  rintro e w2 ⟨rfl, hb2⟩
  rw [HB.out]
  have HB2 := Lib.hid (Below.tr HB1.out hb2)
  clear hb2
  have hmin : min (a - i) (b - j) = (n : Int) := by have := HN.out; rw [HA.out, HB.out] at this; omega
  have Hmin := Lib.hid hmin
  clear hmin
  go_wp2_with fail
  rw [Hmin.out]
  go_loopw [9, 10] (fun vl vh wx => ∃ f p q : Nat, vl = .int .i64 (p : Int) ∧ vh = .int .i64 (q : Int) ∧ p ≤ n ∧ q ≤ n ∧ q - p ≤ f ∧ Below w.heap.size w wx ∧ Hid (commonB (comO xs ys i j) n 0 n = commonB (comO xs ys i j) f p q)) (fun vl vh _ => (intOf vh - intOf vl).toNat)
  case atStart => exact ⟨n, 0, n, rfl, rfl, Nat.zero_le _, Nat.le_refl _, Nat.le_refl _, HB2.out, rfl⟩
  case round =>
    obtain ⟨f, p, q, rfl, rfl, hp, hq, hf, hbw, HE⟩ := hrel
    have HBW := Lib.hid hbw
    clear hbw
    by_cases hpq : p < q
    · have hI : (p : Int) < (q : Int) := by omega
      obtain ⟨m, hm⟩ : ∃ m, (p + q + 1) / 2 = m := ⟨_, rfl⟩
      obtain ⟨f, rfl⟩ : ∃ g, f = g + 1 := ⟨f - 1, by omega⟩
      have w1 : IntKind.i64.wrap ((p : Int) + (q : Int)) = (p : Int) + (q : Int) := IntWalk.i64_in _ (by omega)
      have w2 : IntKind.i64.wrap ((p : Int) + (q : Int) + 1) = (p : Int) + (q : Int) + 1 := IntWalk.i64_in _ (by omega)
      have hmd : ((p : Int) + (q : Int) + 1) / 2 = (m : Int) := by omega
      have hm1 : p < m ∧ m ≤ q := by omega
      have HM := Lib.hid hm
      clear hm
      go_wp2_with fail
      have hcc := wvEqualP_any P Q xs ys i j m _ (HP.out.up HBW.out) (HQ.out.up HBW.out) hi i9 hj j9 (by omega) (by omega)
      with_reducible refine hcc.mono ?_
      clear hcc
      rintro e w4 ⟨rfl, hb4⟩
      have HB4 := Lib.hid (Below.tr HBW.out hb4)
      clear hb4
      obtain ⟨o, ho⟩ : ∃ o, comO xs ys i j m = o := ⟨_, rfl⟩
      have ho' := ho
      unfold comO at ho'
      rw [ho']
      have HO := Lib.hid ho
      clear ho ho'
      cases o with
      | true =>
        go_wp2_with fail
        go_roundw
        case rel => exact ⟨f, m, q, rfl, rfl, by omega, hq, by omega, HB4.out, HE.out.trans (commonB_yes _ hpq HM.out HO.out)⟩
        case measure => simp [intOf]; omega
      | false =>
        have w3 : IntKind.i64.wrap ((m : Int) - 1) = ((m - 1 : Nat) : Int) := by rw [IntWalk.i64_in _ (by omega)]; omega
        go_wp2_with fail
        go_roundw
        case rel => exact ⟨f, p, m - 1, rfl, rfl, hp, by omega, by omega, HB4.out, HE.out.trans (commonB_no _ hpq HM.out HO.out)⟩
        case measure => simp [intOf]; omega
    · have hI : ¬ (p : Int) < (q : Int) := by omega
      have HX := Lib.hid (HE.out.trans (commonB_end _ hpq))
      go_wp2_with fail
      go_ret
      exact ⟨ret_int (by rw [HX.out]), HBW.out⟩
set_option maxRecDepth 100000 in
theorem firstDiff_any (v u : Value) (xs ys : List GRule) (n : Nat) (w : World) (h : Sl RuleE w w.heap.size v xs) (h' : Sl RuleE w w.heap.size u ys) (hx : gramOk xs = true) (hy : gramOk ys = true) (hne : eqG xs ys = false)
    (hn : (n : Int) = min (gramLen xs - 0) (gramLen ys - 0)) :
    Calls Tryd.prog 16 #[.agg #[v], .agg #[u]] w fun e w' => e = .returned (.tuple #[.int .i64 (commonB (comO xs ys 0 0) n 0 n : Nat), .int .i64 0]) ∧ Below w.heap.size w w' := by
  have H := Lib.hid h
  have H' := Lib.hid h'
  obtain ⟨A, c, rfl, _⟩ := h
  obtain ⟨A', c', rfl, _⟩ := h'
  have hX := Lib.hid hx
  have hY := Lib.hid hy
  have HNE := Lib.hid hne
  have HN := Lib.hid hn
  clear hx hy hne hn
  have HB := Lib.hid (fun o o' => ((Below.refl w.heap.size w).alloc (Nat.le_refl _) o).alloc (by simp) o')
  go_enter Tryd.func16, Tryd.ntmps16
  go_wp2_with fail
  refine (weaves_any _ _ xs ys _ (H.out.up (HB.out _ _)) (H'.out.up (HB.out _ _)) hX.out hY.out).mono ?_
  rintro e w1 ⟨P, Q, rfl, hP, hQ, hb1⟩
  have HP := Lib.hid hP
  have HQ := Lib.hid hQ
  have HB1 := Lib.hid (Below.tr (HB.out _ _) hb1)
  clear hb1 hP hQ
  go_wp2_with fail
  refine (wvSame_any P Q xs ys _ HP.out HQ.out).mono ?_
  rintro e w2 ⟨rfl, hb2⟩
  rw [HNE.out]
  have HB2 := Lib.hid (Below.tr HB1.out hb2)
  have HP2 := Lib.hid (HP.out.up hb2)
  have HQ2 := Lib.hid (HQ.out.up hb2)
  clear hb2
  go_wp2_with fail
  refine (common_any P Q xs ys 0 0 n _ HP2.out HQ2.out (by omega) (gram_len_bd xs).1 (by omega) (gram_len_bd ys).1 HN.out).mono ?_
  rintro e w3 ⟨rfl, hb3⟩
  have HB3 := Lib.hid (Below.tr HB2.out hb3)
  clear hb3
  go_wp2_with fail
  go_ret2
  exact ⟨rfl, HB3.out⟩
set_option maxRecDepth 100000 in
theorem A2Place_any (v : Value) (l : List UInt8) (n : Nat) (w : World) (h : Sl ByteE w w.heap.size v l) (hn : n ≤ 1000000000000000) :
    Calls Tryd.prog 12 #[v, .int .i64 (n : Int)] w fun e w' => ∃ x : Nat, e = .returned (.int .i64 (x : Int)) ∧ x ≤ n ∧ Below w.heap.size w w' := by
  have HL := Lib.hid h
  obtain ⟨A, c, rfl, _⟩ := h
  go_enter Tryd.func12, Tryd.ntmps12
  go_wp2_with fail
  refine (from_any _ l _ HL.out).mono ?_
  rintro r w1 ⟨b, rfl, hb, hs, hb1⟩
  have HS := Lib.hid hs
  have HB := Lib.hid hb1
  have Hb := Lib.hid hb
  clear hs hb1 hb
  go_wp2_with fail
  refine (pick_any b 0 1000000 _ HS.out (by omega)).mono ?_
  rintro r w2 ⟨x, rfl, hx, hx2, hs2, hb2⟩
  have HB2 := Lib.hid (HB.out.trans (hb2.below (B := w.heap.size) (by rw [Hb.out]; exact Nat.le_refl _) (by have := HB.out.size; omega)))
  have HX := Lib.hid hx
  have HS2 := Lib.hid hs2
  clear hb2 hx hs2
  have wx : IntKind.i64.wrap ((x : Int) * 1000000000) = (x : Int) * 1000000000 := IntWalk.i64_in _ (by omega)
  go_wp2_with fail
  refine (pick_any b 2 1000000000 _ HS2.out (by omega)).mono ?_
  rintro r w3 ⟨y, rfl, hy, hy2, _, hb3⟩
  have HB3 := Lib.hid (HB2.out.trans (hb3.below (B := w.heap.size) (by rw [Hb.out]; exact Nat.le_refl _) (by have := HB2.out.size; omega)))
  clear hb3
  have wy : IntKind.i64.wrap ((x : Int) * 1000000000 + (y : Int)) = (x : Int) * 1000000000 + (y : Int) := IntWalk.i64_in _ (by omega)
  have wn : IntKind.i64.wrap ((n : Int) + 1) = (n : Int) + 1 := IntWalk.i64_in _ (by omega)
  have hz0 : (((n : Int) + 1) == 0) = false := by rw [beq_eq_false_iff_ne]; omega
  go_wp2_with fail
  go_ret
  have e : ((x : Int) * 1000000000 + (y : Int)) % ((n : Int) + 1) = (((x * 1000000000 + y) % (n + 1) : Nat) : Int) := by rw [Int.natCast_emod, Int.natCast_add, Int.natCast_mul, Int.natCast_add]; rfl
  have hlt := Nat.mod_lt (x * 1000000000 + y) (Nat.succ_pos n)
  exact ⟨(x * 1000000000 + y) % (n + 1), ret_int e, by have h9 : n.succ = n + 1 := rfl; rw [h9] at hlt; omega, HB3.out⟩
end Go.Proofs.YtfhiaifdigefdaaDoor
