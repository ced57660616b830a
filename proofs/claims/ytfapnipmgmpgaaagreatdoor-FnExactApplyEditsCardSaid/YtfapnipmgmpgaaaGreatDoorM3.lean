import Derived.Test.YtfapnipmgmpgaaaGreatDoorM2
import Derived.Test.YtfapnipmgmpgaaaGreatDoorM1
import Derived.Laws.EntriesVeiled
namespace Go.Proofs.YtfapnipmgmpgaaaGreatDoor

/-- A rule of which the numbers are those of the first alike. -/
def trimR (same : List Int) (r : GRule) : GRule := if r.pair then pairR (same.getD r.left.toNat 0) (same.getD r.right.toNat 0) else r
def trimStep (p : List GRule × List Int) (r : GRule) : List GRule × List Int := (p.1 ++ [trimR p.2 r], p.2 ++ [((p.1.idxOf (trimR p.2 r) : Nat) : Int)])
def canon (xs : List GRule) : List GRule × List Int := xs.foldl trimStep ([], [])
def OkAll (xs : List GRule) : Prop := ∀ k r, xs[k]? = some r → okRule k r = true
def needStep (ks : List GRule) (l : List Bool) (i : Nat) : List Bool :=
  if l.getD i false && (getR ks i).pair then (l.set (getR ks i).left.toNat true).set (getR ks i).right.toNat true else l
def needDown (ks : List GRule) : Nat → List Bool → List Bool
  | 0, l => l
  | i + 1, l => needDown ks i (needStep ks l i)
def outStep (ks : List GRule) (need : List Bool) (p : List GRule × List Int) (i : Nat) : List GRule × List Int :=
  if need.getD i false then (p.1 ++ [trimR p.2 (getR ks i)], p.2.set i p.1.length) else p
def rootB (xs : List GRule) : List Bool := (List.replicate xs.length false).set ((canon xs).2.getD (xs.length - 1) 0).toNat true
def needL (xs : List GRule) : List Bool := needDown (canon xs).1 xs.length (rootB xs)
def trimO (xs : List GRule) (k : Nat) : List GRule × List Int := (List.range k).foldl (outStep (canon xs).1 (needL xs)) ([], List.replicate xs.length 0)
/-- The rules that the last one reaches, alike ones once. -/
def trimG (xs : List GRule) : List GRule := (trimO xs xs.length).1

theorem trimR_pair {s : List Int} {r : GRule} (h : r.pair = true) : trimR s r = pairR (s.getD r.left.toNat 0) (s.getD r.right.toNat 0) := by rw [trimR, if_pos h]
theorem trimR_let {s : List Int} {r : GRule} (h : r.pair = false) : trimR s r = r := by rw [trimR, if_neg (by simp [h])]
theorem pairR_pair (a b : Int) : (pairR a b).pair = true := rfl
theorem trimR_isPair (s : List Int) (r : GRule) : (trimR s r).pair = r.pair := by
  unfold trimR; split
  · rename_i h; rw [h]; rfl
  · rfl
theorem canon_snoc {xs : List GRule} {k : Nat} {r : GRule} (h : xs[k]? = some r) : canon (xs.take (k + 1)) = trimStep (canon (xs.take k)) r := foldl_take_succ _ _ _ _ _ h
theorem okRule_pair {k : Nat} {a b : Int} (ha : 0 ≤ a ∧ a < k) (hb : 0 ≤ b ∧ b < k) : okRule k (pairR a b) = true := by
  unfold okRule
  rw [if_pos (pairR_pair a b)]
  show (decide (0 ≤ a) && decide (a ≤ (k : Int) - 1) && decide (0 ≤ b) && decide (b ≤ (k : Int) - 1)) = true
  rw [decide_eq_true ha.1, decide_eq_true (show a ≤ (k : Int) - 1 by omega), decide_eq_true hb.1, decide_eq_true (show b ≤ (k : Int) - 1 by omega)]; rfl
theorem okRule_at {k : Nat} {r : GRule} (h : okRule k r = true) (hp : r.pair = true) : 0 ≤ r.left ∧ r.left.toNat < k ∧ 0 ≤ r.right ∧ r.right.toNat < k := by
  unfold okRule at h
  rw [if_pos hp] at h
  simp at h; omega
theorem okRule_let {k : Nat} {r : GRule} (h : okRule k r = true) (hp : r.pair = false) : r.letter.size = 1 ∧ r.left = 0 ∧ r.right = 0 := by
  unfold okRule at h
  rw [if_neg (by simp [hp])] at h
  simp [isLet] at h
  exact ⟨h.1.1.1.1, h.1.2, h.2⟩
theorem okRule_small {k : Nat} {r : GRule} (h : okRule k r = true) : r.letter.size ≤ 1 := by
  cases hp : r.pair with
  | true => have : r.letter.size = 0 := by simpa [GRule.pair] using hp
            omega
  | false => have := (okRule_let h hp).1; omega

structure CanonOk (k : Nat) (p : List GRule × List Int) : Prop where
  l1 : p.1.length = k
  l2 : p.2.length = k
  low : ∀ i, i < k → 0 ≤ p.2.getD i 0 ∧ p.2.getD i 0 ≤ i
  idx : ∀ i, i < k → p.2.getD i 0 = ((p.1.idxOf (getR p.1 i) : Nat) : Int)
  ok : OkAll p.1
theorem getR_some {xs : List GRule} {k : Nat} {r : GRule} (h : xs[k]? = some r) : getR xs k = r := by
  unfold getR; rw [List.getD_eq_getElem?_getD, h]; rfl
theorem getR_append {xs ys : List GRule} {i : Nat} (h : i < xs.length) : getR (xs ++ ys) i = getR xs i := by
  unfold getR; rw [List.getD_eq_getElem?_getD, List.getD_eq_getElem?_getD, List.getElem?_append_left h]
theorem getR_last (xs : List GRule) (r : GRule) : getR (xs ++ [r]) xs.length = r := by
  unfold getR; simp
theorem getR_mem {xs : List GRule} {i : Nat} (h : i < xs.length) : getR xs i ∈ xs := List.mem_of_getElem? (getR_at h)
theorem getI_append {xs ys : List Int} {i : Nat} (h : i < xs.length) : (xs ++ ys).getD i 0 = xs.getD i 0 := by
  rw [List.getD_eq_getElem?_getD, List.getD_eq_getElem?_getD, List.getElem?_append_left h]
theorem getI_last (xs : List Int) (x : Int) : (xs ++ [x]).getD xs.length 0 = x := by simp
theorem OkAll.snoc {xs : List GRule} {r : GRule} (h : OkAll xs) (hr : okRule xs.length r = true) : OkAll (xs ++ [r]) := by
  intro k x hk
  rcases Nat.lt_or_ge k xs.length with hlt | hge
  · rw [List.getElem?_append_left hlt] at hk; exact h k x hk
  · have hl := (List.getElem?_eq_some_iff.1 hk).1
    simp at hl
    have : k = xs.length := by omega
    subst this
    simp at hk; rw [← hk]; exact hr
theorem canon_ok {xs : List GRule} (h : OkAll xs) : ∀ k, k ≤ xs.length → CanonOk k (canon (xs.take k)) := by
  intro k
  induction k with
  | zero => intro _; exact ⟨rfl, rfl, fun i hi => absurd hi (by omega), fun i hi => absurd hi (by omega), fun k r hk => by simp [canon] at hk⟩
  | succ k ih =>
    intro hk
    have H := ih (by omega)
    obtain ⟨r, hr⟩ : ∃ r, xs[k]? = some r := ⟨_, List.getElem?_eq_getElem (by omega)⟩
    have hor := h k r hr
    rw [canon_snoc hr]
    obtain ⟨K, S, hp⟩ : ∃ K S, canon (xs.take k) = (K, S) := ⟨_, _, rfl⟩
    rw [hp] at H ⊢
    have l1 : K.length = k := H.l1
    have l2 : S.length = k := H.l2
    have hx : okRule k (trimR S r) = true := by
      cases hpr : r.pair with
      | true =>
        obtain ⟨h1, h2, h3, h4⟩ := okRule_at hor hpr
        have a1 : 0 ≤ S.getD r.left.toNat 0 ∧ S.getD r.left.toNat 0 ≤ (r.left.toNat : Int) := H.low _ h2
        have a2 : 0 ≤ S.getD r.right.toNat 0 ∧ S.getD r.right.toNat 0 ≤ (r.right.toNat : Int) := H.low _ h4
        rw [trimR_pair hpr]
        exact okRule_pair ⟨a1.1, by omega⟩ ⟨a2.1, by omega⟩
      | false => rw [trimR_let hpr]; exact hor
    obtain ⟨X, hX⟩ : ∃ X, trimR S r = X := ⟨_, rfl⟩
    have e : trimStep (K, S) r = (K ++ [X], S ++ [((K.idxOf X : Nat) : Int)]) := by unfold trimStep; rw [hX]
    rw [e]
    rw [hX] at hx
    refine ⟨by simp [l1], by simp [l2], ?_, ?_, ?_⟩
    · intro i hi
      rcases Nat.lt_or_ge i k with hlt | hge
      · show 0 ≤ (S ++ _).getD i 0 ∧ _
        rw [getI_append (by omega)]; exact H.low i hlt
      · have : i = S.length := by omega
        subst this
        show 0 ≤ (S ++ _).getD S.length 0 ∧ (S ++ _).getD S.length 0 ≤ _
        rw [getI_last]
        have : K.idxOf X ≤ K.length := List.idxOf_le_length
        omega
    · intro i hi
      show (S ++ _).getD i 0 = (((K ++ [X]).idxOf (getR (K ++ [X]) i) : Nat) : Int)
      rcases Nat.lt_or_ge i k with hlt | hge
      · rw [getI_append (by omega), getR_append (by omega), List.idxOf_append, if_pos (getR_mem (by omega))]
        exact H.idx i hlt
      · have : i = K.length := by omega
        subst this
        rw [getR_last]
        have hS : (S ++ [((K.idxOf X : Nat) : Int)]).getD K.length 0 = ((K.idxOf X : Nat) : Int) := by rw [l1, ← l2, getI_last]
        rw [hS, List.idxOf_append]
        split
        · rfl
        · rename_i hn
          rw [List.idxOf_eq_length hn]; simp
    · exact H.ok.snoc (by rw [show (K, S).1.length = k from l1]; exact hx)

theorem needStep_len (ks : List GRule) (l : List Bool) (i : Nat) : (needStep ks l i).length = l.length := by
  unfold needStep; split <;> simp
theorem needDown_len (ks : List GRule) : ∀ (i : Nat) (l : List Bool), (needDown ks i l).length = l.length
  | 0, _ => rfl
  | i + 1, l => by rw [needDown, needDown_len ks i, needStep_len]
theorem needL_len (xs : List GRule) : (needL xs).length = xs.length := by rw [needL, needDown_len]; simp [rootB]
theorem outStep_len (ks : List GRule) (need : List Bool) (p : List GRule × List Int) (i : Nat) : (outStep ks need p i).2.length = p.2.length ∧ (outStep ks need p i).1.length ≤ p.1.length + 1 := by
  unfold outStep; split <;> simp
theorem trimO_succ (xs : List GRule) (k : Nat) : trimO xs (k + 1) = outStep (canon xs).1 (needL xs) (trimO xs k) k := by
  unfold trimO; rw [List.range_succ, List.foldl_append]; rfl
theorem trimO_len (xs : List GRule) : ∀ k, (trimO xs k).2.length = xs.length ∧ (trimO xs k).1.length ≤ k := by
  intro k
  induction k with
  | zero => simp [trimO]
  | succ k ih =>
    rw [trimO_succ]
    have := outStep_len (canon xs).1 (needL xs) (trimO xs k) k
    omega
theorem trimG_len (xs : List GRule) : (trimG xs).length ≤ xs.length := (trimO_len xs xs.length).2
def Small1 (l : List GRule) : Prop := ∀ r ∈ l, r.letter.size ≤ 1
theorem okAll_small {xs : List GRule} (h : OkAll xs) : Small1 xs := by
  intro r hr
  obtain ⟨k, hk⟩ := List.mem_iff_getElem?.1 hr
  exact okRule_small (h k r hk)
theorem trimR_small {s : List Int} {r : GRule} (h : r.letter.size ≤ 1) : (trimR s r).letter.size ≤ 1 := by
  unfold trimR; split
  · exact (by decide : (0 : Nat) ≤ 1)
  · exact h
theorem canon_all {xs : List GRule} (h : OkAll xs) : CanonOk xs.length (canon xs) := by
  have := canon_ok h xs.length (Nat.le_refl _)
  rwa [List.take_length] at this
theorem trimO_small {xs : List GRule} (h : OkAll xs) : ∀ k, k ≤ xs.length → Small1 (trimO xs k).1 := by
  intro k
  induction k with
  | zero => intro _ r hr; simp [trimO] at hr
  | succ k ih =>
    intro hk
    have H := ih (by omega)
    have hc := canon_all h
    rw [trimO_succ]
    unfold outStep
    split
    · intro r hr
      rcases List.mem_append.1 hr with hr | hr
      · exact H r hr
      · rw [List.mem_singleton] at hr; subst hr
        exact trimR_small (okAll_small hc.ok _ (getR_mem (by rw [hc.l1]; omega)))
    · exact H
theorem trimG_small {xs : List GRule} (h : OkAll xs) : SmallL (trimG xs) := fun r hr => Nat.le_trans (trimO_small h xs.length (Nat.le_refl _) r hr) (by decide)
theorem okAll_lens {xs : List GRule} {ls : List Int} (h : lens xs = some ls) : OkAll xs := fun k r hk => (lens_steps h k r hk).1
end Go.Proofs.YtfapnipmgmpgaaaGreatDoor

namespace Go.Proofs.YtfapnipmgmpgaaaGreatDoor
open Go.RowKit

/-- Nothing but block b has turned. -/
structure But (b : Nat) (w w' : World) : Prop where
  os : w'.os = w.os
  tape : w'.tape = w.tape
  output : w'.output = w.output
  size : w.heap.size ≤ w'.heap.size
  block : ∀ k, k < w.heap.size → k ≠ b → w'.heap[k]? = w.heap[k]?
theorem But.refl (b : Nat) (w : World) : But b w w := ⟨rfl, rfl, rfl, Nat.le_refl _, fun _ _ _ => rfl⟩
theorem But.trans {b : Nat} {x y z : World} (h : But b x y) (k : But b y z) : But b x z :=
  ⟨k.os.trans h.os, k.tape.trans h.tape, k.output.trans h.output, Nat.le_trans h.size k.size, fun i hi hne => (k.block i (Nat.lt_of_lt_of_le hi h.size) hne).trans (h.block i hi hne)⟩
theorem But.of {b : Nat} {w w' : World} (h : Below w.heap.size w w') : But b w w' := ⟨h.os, h.tape, h.output, h.size, fun k hk _ => h.block k hk⟩
theorem But.below {b B : Nat} {w w' : World} (h : But b w w') (hB : B ≤ b) (hw : B ≤ w.heap.size) : Below B w w' := ⟨h.os, h.tape, h.output, h.size, fun k hk => h.block k (Nat.lt_of_lt_of_le hk hw) (by omega)⟩
theorem But.cell {b : Nat} {w w' : World} (h : But b w w') {p : Addr} (hp : p.block < w.heap.size) (hne : p.block ≠ b) : w'.cell? p = w.cell? p := by
  simp only [World.cell?, h.block _ hp hne]
theorem But.drew {b : Nat} {w w' : World} (h : But b w w') : But b w w'.drew := ⟨h.os, h.tape, h.output, h.size, h.block⟩
theorem But.drewN {b : Nat} {w w' : World} (h : But b w w') (n : Nat) : But b w (w'.drewN n) := ⟨h.os, h.tape, h.output, h.size, h.block⟩
theorem But.setCell {b o : Nat} {w w' : World} (h : But b w w') (v : Value) : But b w (w'.setCell ⟨b, o, none⟩ v) :=
  ⟨h.os, h.tape, h.output, by simpa [World.setCell] using h.size, fun k hk hne => by
    rw [← h.block k hk hne]
    simp only [World.setCell, Array.getElem?_modify]
    rw [if_neg (fun e => hne e.symm)]⟩
theorem But.alloc {b : Nat} {w w' : World} (h : But b w w') (o : Obj) : But b w (w'.alloc o) :=
  ⟨h.os, h.tape, h.output, Nat.le_trans h.size (by simp), fun k hk hne => (Below.heap_alloc w' o k (Nat.lt_of_lt_of_le hk h.size)).trans (h.block k hk hne)⟩
theorem But.tr {b : Nat} {w w1 w2 : World} (h : But b w w1) (hb : Below w1.heap.size w1 w2) : But b w w2 := h.trans (But.of hb)
theorem But.keepS {b : Nat} {w w' : World} (h : But b w w') : Keep (fun k => k ≠ b ∧ k < w.heap.size) w w' := fun k hk => h.block k hk.2 hk.1
end Go.Proofs.YtfapnipmgmpgaaaGreatDoor

namespace Go.Proofs.YtfapnipmgmpgaaaGreatDoor
open Go.RowKit

/-- Block b holds the cells a. -/
def Blk (w : World) (b : Nat) (a : Array Value) (t : TypeId) : Prop := w.heap[b]? = some (.cells a t (0, 0))
section
variable {w w' : World} {b N : Nat} {a : Array Value} {t : TypeId}
theorem Blk.lt (h : Blk w b a t) : b < w.heap.size := (Array.getElem?_eq_some_iff.1 h).1
theorem Blk.up (h : Blk w b a t) (hb : Below w.heap.size w w') : Blk w' b a t := (hb.block b h.lt).trans h
theorem Blk.upB (h : Blk w b a t) (hb : Below N w w') (hlt : b < N) : Blk w' b a t := (hb.block b hlt).trans h
theorem Blk.cell (h : Blk w b a t) {i : Nat} {v : Value} (hi : a[i]? = some v) : w.cell? ⟨b, i, none⟩ = some v := by
  rw [cell_of_row w b i a t (0, 0) h, hi]
theorem Blk.frozen (h : Blk w b a t) (i : Nat) : w.frozen? ⟨b, i, none⟩ = false := by
  simp [World.frozen?, show w.heap[b]? = _ from h]
theorem Blk.set (h : Blk w b a t) (i : Nat) (v : Value) : Blk (w.setCell ⟨b, i, none⟩ v) b (a.setIfInBounds i v) t := by
  obtain ⟨hlt, hk⟩ := Array.getElem?_eq_some_iff.1 h
  show (w.heap.modify b _)[b]? = _
  rw [Array.getElem?_eq_getElem (by rw [Array.size_modify]; exact hlt), Array.getElem_modify_self, hk]
  rfl
theorem Blk.other (h : Blk w b a t) {p : Addr} (hne : b ≠ p.block) (v : Value) : Blk (w.setCell p v) b a t := (Below.heap_setCell w p v b hne).trans h
theorem Blk.alloc (h : Blk w b a t) (o : Obj) : Blk (w.alloc o) b a t := (Below.heap_alloc w o b h.lt).trans h
theorem Blk.drew (h : Blk w b a t) : Blk w.drew b a t := h
theorem Blk.new (w : World) (a : Array Value) (t : TypeId) : Blk (w.alloc (.cells a t)) w.heap.size a t := heap_alloc_new w _
theorem Blk.of_heap (h : w.heap[b]? = some (.cells a t (0, 0))) : Blk w b a t := h
end
theorem Blk.but {w w' : World} {b c : Nat} {a : Array Value} {t : TypeId} (h : Blk w c a t) (hb : But b w w') (hne : c ≠ b) : Blk w' c a t := (hb.block c h.lt hne).trans h
theorem own_but {b base : Nat} {w w' : World} {v : Value} {l : List GRule} (h : OwnRules w base v l) (hb : But b w w') (hne : ∀ g, v.ownBlock = some g → g ≠ b) : OwnRules w' base v l :=
  own_keep h fun g hg => hb.block g (World.ownsRow.lt h g hg).2 (hne g hg)
/-- What holds below a world with a new block holds below the world. -/
theorem Below.unalloc {w w' : World} {o : Obj} (hb : Below (w.alloc o).heap.size (w.alloc o) w') : Below w.heap.size w w' ∧ w'.heap[w.heap.size]? = some o :=
  ⟨((Below.refl w.heap.size w).alloc (Nat.le_refl _) o).trans (hb.mono (by simp)), (hb.block _ (by simp)).trans (heap_alloc_new w o)⟩
theorem Below.undrew {w w' : World} (hb : Below w.drew.heap.size w.drew w') : Below w.heap.size w w' := ((Below.refl w.heap.size w).drew).trans hb
theorem Below.undrewN {w w' : World} {n : Nat} (hb : Below (w.drewN n).heap.size (w.drewN n) w') : Below w.heap.size w w' := (below_drewN (Below.refl w.heap.size w) n).trans (hb.mono (by simp))
theorem Below.up {w0 w w' : World} {N : Nat} (h : Below N w0 w) (hb : Below w.heap.size w w') (hN : N ≤ w0.heap.size) : Below N w0 w' := h.trans (hb.mono (Nat.le_trans hN h.size))
theorem Below.tr {w0 w w' : World} (h : Below w0.heap.size w0 w) (hb : Below w.heap.size w w') : Below w0.heap.size w0 w' := h.trans (hb.mono h.size)
theorem SlS.upN {α : Type} {E : Enc α} {w w' : World} {N : Nat} {v : Value} {xs : List α} (h : Sl E w N v xs) (hN : N ≤ w.heap.size) (hb : Below w.heap.size w w') : Sl E w' N v xs := h.below (hb.mono hN)
end Go.Proofs.YtfapnipmgmpgaaaGreatDoor

namespace Go.Proofs.YtfapnipmgmpgaaaGreatDoor
open Go.RowKit

/-- A row of rules of one's own, between two block numbers. -/
def OwnR (w : World) (lo hi : Nat) (v : Value) (l : List GRule) : Prop := OwnRules w lo v l ∧ (∀ g, v.ownBlock = some g → g < hi) ∧ hi ≤ w.heap.size
section
variable {w w' : World} {lo hi : Nat} {v : Value} {l : List GRule} {row : Option Nat}
theorem OwnR.of (h : OwnRules w lo v l) : OwnR w lo w.heap.size v l := ⟨h, fun g hg => (World.ownsRow.lt h g hg).2, Nat.le_refl _⟩
theorem OwnR.up (h : OwnR w lo hi v l) (hb : Below w.heap.size w w') : OwnR w' lo hi v l := ⟨OwnRules.below h.1 hb, h.2.1, Nat.le_trans h.2.2 hb.size⟩
theorem OwnR.rng (h : OwnR w lo hi v l) : ∀ g, v.ownBlock = some g → lo ≤ g ∧ g < hi := fun g hg => ⟨(World.ownsRow.lt h.1 g hg).1, h.2.1 g hg⟩
theorem OwnR.grown (h : OwnR w lo hi v l) (hg : w.grownBy w' row) (hr : ∀ g, row = some g → g < lo ∨ hi ≤ g) : OwnR w' lo hi v l :=
  ⟨OwnRules.keep h.1 hg fun g hgg e => by have h1 := h.rng g hgg; have h2 := hr g e.symm; omega, h.2.1, Nat.le_trans h.2.2 hg.size⟩
theorem OwnR.marked {l' : List GRule} (h : OwnR w lo hi v l) (h' : OwnRules w' lo v l') (hg : w.grownBy w' row) : OwnR w' lo hi v l' := ⟨h', h.2.1, Nat.le_trans h.2.2 hg.size⟩
theorem OwnR.alloc (h : OwnR w lo hi v l) (o : Obj) : OwnR (w.alloc o) lo hi v l := ⟨World.ownsRow.alloc h.1 o, h.2.1, Nat.le_trans h.2.2 (by simp)⟩
theorem OwnR.sl (h : OwnR w lo hi v l) : Sl RuleE w w.heap.size v l := OwnRules.sl h.1
end
/-- Only blocks between lo and hi have turned (and new ones have come). -/
structure Chg (lo hi : Nat) (w w' : World) : Prop where
  os : w'.os = w.os
  tape : w'.tape = w.tape
  output : w'.output = w.output
  size : w.heap.size ≤ w'.heap.size
  block : ∀ k, k < w.heap.size → k < lo ∨ hi ≤ k → w'.heap[k]? = w.heap[k]?
theorem Chg.refl (lo hi : Nat) (w : World) : Chg lo hi w w := ⟨rfl, rfl, rfl, Nat.le_refl _, fun _ _ _ => rfl⟩
theorem Chg.trans {lo hi : Nat} {x y z : World} (h : Chg lo hi x y) (k : Chg lo hi y z) : Chg lo hi x z :=
  ⟨k.os.trans h.os, k.tape.trans h.tape, k.output.trans h.output, Nat.le_trans h.size k.size, fun i hi1 hne => (k.block i (Nat.lt_of_lt_of_le hi1 h.size) hne).trans (h.block i hi1 hne)⟩
theorem Chg.of_below {lo hi : Nat} {x y : World} (h : Below x.heap.size x y) : Chg lo hi x y := ⟨h.os, h.tape, h.output, h.size, fun k hk _ => h.block k hk⟩
theorem chg_of {w w' : World} {lo hi : Nat} {v : Value} {l : List GRule} (h : OwnR w lo hi v l) (hg : w.grownBy w' v.ownBlock) : Chg lo hi w w' :=
  ⟨hg.os, hg.tape, hg.output, hg.size, fun k hk hne => hg.block k hk fun e => by have := h.rng k e.symm; omega⟩
theorem Chg.mono {lo hi lo' hi' : Nat} {x y : World} (h : Chg lo hi x y) (h1 : lo' ≤ lo) (h2 : hi ≤ hi') : Chg lo' hi' x y := ⟨h.os, h.tape, h.output, h.size, fun k hk hne => h.block k hk (by omega)⟩
theorem Chg.below {lo hi N : Nat} {x y : World} (h : Chg lo hi x y) (h1 : N ≤ lo) (h2 : N ≤ x.heap.size) : Below N x y := ⟨h.os, h.tape, h.output, h.size, fun k hk => h.block k (Nat.lt_of_lt_of_le hk h2) (by omega)⟩
theorem Blk.chg {w w' : World} {b lo hi : Nat} {a : Array Value} {t : TypeId} (h : Blk w b a t) (hc : Chg lo hi w w') (hne : b < lo ∨ hi ≤ b) : Blk w' b a t := (hc.block b h.lt hne).trans h
theorem OwnR.chg {w w' : World} {lo hi lo' hi' : Nat} {v : Value} {l : List GRule} (h : OwnR w lo hi v l) (hc : Chg lo' hi' w w') (hne : hi ≤ lo' ∨ hi' ≤ lo) : OwnR w' lo hi v l :=
  ⟨own_keep h.1 fun g hg => hc.block g (by have := h.rng g hg; have := h.2.2; omega) (by have := h.rng g hg; omega), h.2.1, Nat.le_trans h.2.2 hc.size⟩
theorem OwnR.markedC {w w' : World} {lo hi lo' hi' : Nat} {v : Value} {l l' : List GRule} (h : OwnR w lo hi v l) (h' : OwnRules w' lo v l') (hc : Chg lo' hi' w w') : OwnR w' lo hi v l' := ⟨h', h.2.1, Nat.le_trans h.2.2 hc.size⟩
theorem Below.chg {w0 w w' : World} {N lo hi : Nat} (h : Below N w0 w) (hN : N ≤ w.heap.size) (hc : Chg lo hi w w') (hl : N ≤ lo) : Below N w0 w' := h.trans (hc.below hl hN)
theorem SlS.chgN {α : Type} {E : Enc α} {w w' : World} {N lo hi : Nat} {v : Value} {xs : List α} (h : Sl E w N v xs) (hN : N ≤ w.heap.size) (hc : Chg lo hi w w') (hl : N ≤ lo) : Sl E w' N v xs := h.below (hc.below hl hN)
theorem Blk.grown {w w' : World} {b : Nat} {a : Array Value} {t : TypeId} {row : Option Nat} (h : Blk w b a t) (hg : w.grownBy w' row) (hne : ∀ g, row = some g → g ≠ b) : Blk w' b a t :=
  (hg.block b h.lt (fun e => hne b e.symm rfl)).trans h
theorem Below.grown {w0 w w' : World} {N : Nat} {row : Option Nat} (h : Below N w0 w) (hN : N ≤ w.heap.size) (hg : w.grownBy w' row) (hr : ∀ g, row = some g → N ≤ g) : Below N w0 w' := h.trans (below_of_grown hg hN hr)
theorem SlS.grownN {α : Type} {E : Enc α} {w w' : World} {N : Nat} {v : Value} {xs : List α} {row : Option Nat} (h : Sl E w N v xs) (hN : N ≤ w.heap.size) (hg : w.grownBy w' row) (hr : ∀ g, row = some g → N ≤ g) : Sl E w' N v xs := h.below (below_of_grown hg hN hr)
/-- The cells of a box of one and a box of six, in a later world. -/
theorem keep17 {wr W : World} {a x : Nat} {t t' : TypeId} {v c0 c1 c2 c3 c4 c5 : Value} (ha : Blk wr a #[v] t) (hx : Blk wr x #[c0, c1, c2, c3, c4, c5] t') (h : Below wr.heap.size wr W) :
    Below wr.heap.size wr W ∧ W.cell? ⟨a, 0, none⟩ = some v ∧ W.cell? ⟨x, 0, none⟩ = some c0 ∧ W.cell? ⟨x, 1, none⟩ = some c1 ∧ W.cell? ⟨x, 2, none⟩ = some c2 ∧ W.cell? ⟨x, 3, none⟩ = some c3 ∧ W.cell? ⟨x, 4, none⟩ = some c4 ∧ W.cell? ⟨x, 5, none⟩ = some c5 := by
  have h1 := ha.up h
  have h2 := hx.up h
  exact ⟨h, h1.cell rfl, h2.cell rfl, h2.cell rfl, h2.cell rfl, h2.cell rfl, h2.cell rfl, h2.cell rfl⟩
theorem keep11 {wr W : World} {a x : Nat} {t t' : TypeId} {v u : Value} (ha : Blk wr a #[v] t) (hx : Blk wr x #[u] t') (h : Below wr.heap.size wr W) :
    Below wr.heap.size wr W ∧ W.cell? ⟨a, 0, none⟩ = some v ∧ W.cell? ⟨x, 0, none⟩ = some u := ⟨h, (ha.up h).cell rfl, (hx.up h).cell rfl⟩
theorem keep66 {wr W : World} {a x : Nat} {t t' : TypeId} {v0 v1 v2 v3 v4 v5 c0 c1 c2 c3 c4 c5 : Value} (ha : Blk wr a #[v0, v1, v2, v3, v4, v5] t) (hx : Blk wr x #[c0, c1, c2, c3, c4, c5] t') (h : Below wr.heap.size wr W) :
    Below wr.heap.size wr W ∧ W.cell? ⟨a, 0, none⟩ = some v0 ∧ W.cell? ⟨a, 1, none⟩ = some v1 ∧ W.cell? ⟨a, 2, none⟩ = some v2 ∧ W.cell? ⟨a, 3, none⟩ = some v3 ∧ W.cell? ⟨a, 4, none⟩ = some v4 ∧ W.cell? ⟨a, 5, none⟩ = some v5 ∧ W.cell? ⟨x, 0, none⟩ = some c0 ∧ W.cell? ⟨x, 1, none⟩ = some c1 ∧ W.cell? ⟨x, 2, none⟩ = some c2 ∧ W.cell? ⟨x, 3, none⟩ = some c3 ∧ W.cell? ⟨x, 4, none⟩ = some c4 ∧ W.cell? ⟨x, 5, none⟩ = some c5 := by
  have h1 := ha.up h
  have h2 := hx.up h
  exact ⟨h, h1.cell rfl, h1.cell rfl, h1.cell rfl, h1.cell rfl, h1.cell rfl, h1.cell rfl, h2.cell rfl, h2.cell rfl, h2.cell rfl, h2.cell rfl, h2.cell rfl, h2.cell rfl⟩
end Go.Proofs.YtfapnipmgmpgaaaGreatDoor

namespace Go.Proofs.YtfapnipmgmpgaaaGreatDoor
open Go.RowKit
section
variable {σ : Type}

set_option maxRecDepth 100000 in
set_option maxHeartbeats 1000000 in
theorem pieces_any (J : (Nat → Prop) → σ → World → Prop) (step : σ → Nat → σ) (Ok : σ → Nat → Prop) (F : FuncId) (cap : Array Value) (xs : List GRule) (ls : List Int) (i j : Int) (hlens : lens xs = some ls) (hxs : xs.length ≤ 1099511627776)
    (eg : ∀ args w, (callFunc F args).run Tryz.prog w = .ok (.enter F args) w)
    (hext : ∀ C s w w', J C s w → Below w.heap.size w w' → NewNoB w.heap.size w' → (∀ b, C b → b < w.heap.size) → J (ext C w.heap.size w'.heap.size) s w')
    (hwith : ∀ C s (r : Nat) (w : World), J C s w → Ok s r → r < xs.length → (∀ b, C b → b < w.heap.size) → Calls Tryz.prog F (#[.int .i64 r] ++ cap) w (TakePost J C (step s r) w))
    (vL vR : Value) (s : σ) (C : Nat → Prop) (w : World) (hJ : J C s w) (hRu : Runs step Ok s (piecesL xs ls i j)) (hlt : ∀ b, C b → b < w.heap.size) (hL : SlS IntE w C vL ls) (hR : SlS RuleE w C vR xs) :
    Calls Tryz.prog 135 #[.agg #[vR], vL, .int .i64 i, .int .i64 j, .func (.func F) #[] cap] w (TakePost J C ((piecesL xs ls i j).foldl step s) w) := by
  have HT := Lib.hid (take_any J step Ok F cap xs ls i j hlens eg hext hwith (w.heap.size + 1) (w.heap.size + 1 + 1) (w.heap.size + 1 + 1 + 1) (w.heap.size + 1 + 1 + 1 + 1) w.heap.size (w.heap.size + 1 + 1 + 1 + 1 + 1) vL vR xs.length)
  have He := Lib.hid hext
  have HJ := Lib.hid hJ
  have HRu := Lib.hid hRu
  clear hRu
  have HL := Lib.hid hL
  have HR := Lib.hid hR
  have Hlt := Lib.hid hlt
  clear hwith hext hJ eg hL
  obtain ⟨AR, cR, rfl, _, _, hrowR⟩ := hR
  clear hrowR
  obtain ⟨AL, cL, rfl, _⟩ := HL.out
  have hB : ∀ o1 o2 o3 o4 o5 o6, Below w.heap.size w ((((((w.alloc o1).alloc o2).alloc o3).alloc o4).alloc o5).alloc o6) := fun o1 o2 o3 o4 o5 o6 => (by repeat (first | exact Below.refl _ _ | (refine Below.alloc ?_ (by first | omega | (simp; done) | (simp; omega)) _) | refine below_drewN ?_ _ | refine Below.drew ?_))
  have hJ6 : ∀ o1 o2 o3 o4 o5 o6, NoB o1 → NoB o2 → NoB o3 → NoB o4 → NoB o5 → NoB o6 → J (ext C w.heap.size (w.heap.size + 6)) s ((((((w.alloc o1).alloc o2).alloc o3).alloc o4).alloc o5).alloc o6) := fun o1 o2 o3 o4 o5 o6 n1 n2 n3 n4 n5 n6 => by
    have := He.out C s w ((((((w.alloc o1).alloc o2).alloc o3).alloc o4).alloc o5).alloc o6) HJ.out (hB _ _ _ _ _ _) ((((((((NewNoB.same w).alloc n1).alloc n2).alloc n3).alloc n4).alloc n5).alloc n6)) Hlt.out
    simpa using this
  have hK6 : ∀ o1 o2 o3 o4 o5 o6, Keep C w ((((((w.alloc o1).alloc o2).alloc o3).alloc o4).alloc o5).alloc o6) := fun o1 o2 o3 o4 o5 o6 => (Wk.of_below (hB _ _ _ _ _ _) Hlt.out).keep
  by_cases h0 : 0 < xs.length ∧ i < j
  · obtain ⟨h1, h2⟩ := h0
    go_enter Tryz.func135, Tryz.ntmps135
    go_wp2_with fail
    rw [show ((xs.length : Int) - 1) = ((xs.length - 1 : Nat) : Int) by omega]
    refine (HT.out (xs.length - 1) 0 s (ext C w.heap.size (w.heap.size + 6)) _ (by omega) (by omega) (by omega) ?_ ?_ ?_ ?_).mono ?_
    · have := lens_pos' hlens (r := xs.length - 1) (by omega); omega
    · exact hJ6 _ _ _ _ _ _ (NoB.cells (by decide)) (NoB.cells (by decide)) (NoB.cells (by decide)) (NoB.cells (by decide)) (NoB.cells (by decide)) (NoB.cells (by decide))
    · have := HRu.out
      rwa [piecesL, if_pos ⟨h1, h2⟩] at this
    · have hk := hK6
      exact ⟨by simp [go_sem], by simp [go_sem], by simp [go_sem], by simp [go_sem], by simp [go_sem], by simp [go_sem], Or.inr (by omega), Or.inr (by omega), Or.inr (by omega), Or.inr (by omega), Or.inr (by omega), Or.inr (by omega), (HL.out.keep (hk _ _ _ _ _ _)).more fun b h => Or.inl h, (HR.out.keep (hk _ _ _ _ _ _)).more fun b h => Or.inl h, fun b h => by
        simp
        rcases h with h | h
        · have := Hlt.out b h; omega
        · exact h.2⟩
    · rintro e w2 ⟨rfl, C2, g1, g2, g3, g4⟩
      go_wp2_with fail
      go_end0
      refine ⟨rfl, C2, fun b h => g1 _ (Or.inl h), g2, ?_, ?_⟩
      · rw [piecesL, if_pos ⟨h1, h2⟩]; exact g3
      · exact (Wk.of_below (hB _ _ _ _ _ _) Hlt.out).trans (g4.mono fun b h => Or.inl h)
  · have hp : piecesL xs ls i j = [] := by rw [piecesL, if_neg h0]
    have Hp := Lib.hid hp
    have hh : ¬ 0 < xs.length ∨ (0 < xs.length ∧ ¬ i < j) := by omega
    clear hp h0
    rcases hh with h1 | ⟨h1, h2⟩
    all_goals
      go_enter Tryz.func135, Tryz.ntmps135
      go_wp2_with fail
      go_end0
      refine ⟨rfl, ext C w.heap.size (w.heap.size + 6), fun b h => Or.inl h, ?_, ?_, Wk.of_below (hB _ _ _ _ _ _) Hlt.out⟩
      · intro b h
        simp
        rcases h with h | h
        · have := Hlt.out b h; omega
        · exact h.2
      · rw [Hp.out]
        exact hJ6 _ _ _ _ _ _ (NoB.cells (by decide)) (NoB.cells (by decide)) (NoB.cells (by decide)) (NoB.cells (by decide)) (NoB.cells (by decide)) (NoB.cells (by decide))
end
end Go.Proofs.YtfapnipmgmpgaaaGreatDoor

namespace Go.Proofs.YtfapnipmgmpgaaaGreatDoor
open Go.RowKit

theorem within_yes (n a b : Int) (w : World) (h : inR n a b = true) : Calls Tryz.prog 63 #[.int .i64 n, .int .i64 a, .int .i64 b] w fun e w' => e = .returned (.bool true) ∧ w = w' :=
  (within_any n a b w).mono fun _ _ ⟨he, hw⟩ => ⟨by rw [he, ← h]; rfl, hw⟩
theorem within_no (n a b : Int) (w : World) (h : inR n a b = false) : Calls Tryz.prog 63 #[.int .i64 n, .int .i64 a, .int .i64 b] w fun e w' => e = .returned (.bool false) ∧ w = w' :=
  (within_any n a b w).mono fun _ _ ⟨he, hw⟩ => ⟨by rw [he, ← h]; rfl, hw⟩

end Go.Proofs.YtfapnipmgmpgaaaGreatDoor

namespace Go.Proofs.YtfapnipmgmpgaaaGreatDoor
open Go.RowKit

/-- The value v reads as the automaton a, below block B. -/
def AutoV (w : World) (B : Nat) (v : Value) (a : GAuto) : Prop := ∃ vF vN, v = .agg #[.int .i64 a.states, .int .i64 a.start, vF, vN] ∧ Sl IntE w B vF a.finals ∧ Sl (SliceE IntE) w B vN a.next
theorem AutoV.below {w w' : World} {B : Nat} {v : Value} {a : GAuto} (h : AutoV w B v a) (hb : Below B w w') : AutoV w' B v a := by
  obtain ⟨vF, vN, rfl, h1, h2⟩ := h
  exact ⟨vF, vN, rfl, h1.below hb, h2.below hb⟩
theorem AutoV.le {w : World} {B B' : Nat} {v : Value} {a : GAuto} (h : AutoV w B v a) (hb : B ≤ B') : AutoV w B' v a := by
  obtain ⟨vF, vN, rfl, h1, h2⟩ := h
  exact ⟨vF, vN, rfl, h1.le hb, h2.le hb⟩
theorem AutoV.up {w0 w : World} {v : Value} {a : GAuto} (h : AutoV w0 w0.heap.size v a) (hb : Below w0.heap.size w0 w) : AutoV w w.heap.size v a := (h.below hb).le hb.size

end Go.Proofs.YtfapnipmgmpgaaaGreatDoor

namespace Go.Proofs.YtfapnipmgmpgaaaGreatDoor
open Go.RowKit

theorem any_false_of {α : Type} {p : α → Bool} {d : α} {l : List α} (h : ∀ i, i < l.length → p (l.getD i d) = true) : (l.any fun r => !p r) = false := by
  rw [List.any_eq_false]
  intro x hx
  obtain ⟨i, hi, rfl⟩ := List.getElem_of_mem hx
  have := h i hi
  rw [List.getD_eq_getElem?_getD, List.getElem?_eq_getElem hi, Option.getD_some] at this
  simp [this]
theorem any_true_of {α : Type} {p : α → Bool} {d : α} {l : List α} (i : Nat) (hi : i < l.length) (h : p (l.getD i d) = false) : (l.any fun r => !p r) = true := by
  rw [List.any_eq_true]
  rw [List.getD_eq_getElem?_getD, List.getElem?_eq_getElem hi, Option.getD_some] at h
  exact ⟨l[i], List.getElem_mem hi, by simp [h]⟩
theorem rowOk_no1 {s : Int} {row : List Int} (h : row.length ≠ 4) : rowOk s row = false := by simp [rowOk, h]
theorem rowOk_no2 {s : Int} {row : List Int} (i : Nat) (hi : i < row.length) (h : inR (row.getD i 0) 0 (s - 1) = false) : rowOk s row = false := by
  unfold rowOk; rw [any_true_of (p := fun x => inR x 0 (s - 1)) (d := 0) i hi h]; simp
theorem rowOk_yes {s : Int} {row : List Int} (h : row.length = 4) (h' : ∀ i, i < 4 → inR (row.getD i 0) 0 (s - 1) = true) : rowOk s row = true := by
  unfold rowOk; rw [any_false_of (p := fun x => inR x 0 (s - 1)) (d := 0) (by rw [h]; exact h')]; simp [h]
theorem nextOk_no {s : Int} {next : List (List Int)} (i : Nat) (hi : i < next.length) (h : rowOk s (next.getD i []) = false) : nextOk s next = false := by
  unfold nextOk; rw [any_true_of (p := rowOk s) (d := []) i hi h]; simp
theorem nextOk_of {s : Int} {next : List (List Int)} (h : ∀ i, i < next.length → rowOk s (next.getD i []) = true) : nextOk s next = ((next.length : Int) == s) := by
  unfold nextOk; rw [any_false_of (p := rowOk s) (d := []) h]; simp

end Go.Proofs.YtfapnipmgmpgaaaGreatDoor

namespace Go.Proofs.YtfapnipmgmpgaaaGreatDoor
open Go.RowKit

def szA (a : GAuto) (left : Int) : Int := if szN a.finals.length left < 0 then -1 else if szII a.next (szN a.finals.length left) < 0 then -1 else szII a.next (szN a.finals.length left)
theorem szII_le (xs : List (List Int)) (left : Int) (h0 : 0 ≤ left) : szII xs left ≤ left := by
  unfold szII
  split
  · omega
  · have := szNN_le xs (szN xs.length left) (by omega)
    have h3 : szN xs.length left ≤ left := by unfold szN; split <;> omega
    omega
theorem szNN_all (xs : List (List Int)) : ∀ left : Int, 0 ≤ szNN xs left → left ≤ 1048576 → ∀ x ∈ xs, x.length ≤ 1048576 := by
  induction xs with
  | nil => intro l _ _ x hx; simp at hx
  | cons y ys ih =>
    intro l h hl x hx
    unfold szNN at h
    split at h
    · omega
    · rename_i hn
      have h3 : szN y.length l ≤ l := by unfold szN at *; split at hn <;> split <;> omega
      have h4 : (y.length : Int) ≤ l := by unfold szN at hn; split at hn <;> omega
      rcases List.mem_cons.1 hx with rfl | hx
      · omega
      · exact ih _ h (by omega) x hx
theorem szA_le {a : GAuto} (h : 0 ≤ szA a 1048576) : a.finals.length ≤ 1048576 ∧ a.next.length ≤ 1048576 ∧ ∀ x ∈ a.next, x.length ≤ 1048576 := by
  unfold szA at h
  split at h
  · omega
  · rename_i h1
    split at h
    · omega
    · rename_i h2
      have h3 : szN a.finals.length 1048576 ≤ 1048576 := by unfold szN; split <;> omega
      have h4 : (a.finals.length : Int) ≤ 1048576 := by unfold szN at h1; split at h1 <;> omega
      unfold szII at h
      split at h
      · omega
      · rename_i h5
        have h6 : szN a.next.length (szN a.finals.length 1048576) ≤ 1048576 := by unfold szN at *; (repeat' split) <;> omega
        have h7 : (a.next.length : Int) ≤ 1048576 := by unfold szN at h5 h6 h3; (repeat' split at h5) <;> omega
        exact ⟨by omega, by omega, szNN_all _ _ h h6⟩

theorem Keep.of_set {S : Nat → Prop} {w : World} {p : Addr} (h : ¬ S p.block) (v : Value) : Keep S w (w.setCell p v) := by
  intro b hb
  exact heap_setCell_other w p b v (fun e => h (e ▸ hb))
theorem Keep.of_set2 {N M b o : Nat} {w : World} (h : b < N) (v : Value) : Keep (fun k => N ≤ k ∧ k < M) w (w.setCell ⟨b, o, none⟩ v) := Keep.of_set (fun h' => by have := h'.1; simp at this; omega) v

end Go.Proofs.YtfapnipmgmpgaaaGreatDoor

namespace Go.Proofs.YtfapnipmgmpgaaaGreatDoor
open Go.RowKit

def stepW (next : List (List Int)) (s : Nat) (d : Nat) : Nat := ((next.getD s []).getD d 0).toNat
def readW (next : List (List Int)) (s : Nat) (l : List UInt8) : Nat := l.foldl (fun s c => stepW next s (c.toNat - 97)) s
theorem any_false_get {α : Type} {p : α → Bool} {d : α} {l : List α} (h : (l.any fun r => !p r) = false) (i : Nat) (hi : i < l.length) : p (l.getD i d) = true := by
  rw [List.any_eq_false] at h
  have := h l[i] (List.getElem_mem hi)
  rw [List.getD_eq_getElem?_getD, List.getElem?_eq_getElem hi, Option.getD_some]
  simpa using this
theorem nextOk_get {s : Int} {next : List (List Int)} (h : nextOk s next = true) : (next.length : Int) = s ∧ ∀ t, t < next.length → (next.getD t []).length = 4 ∧ ∀ d, d < 4 → 0 ≤ (next.getD t []).getD d 0 ∧ (next.getD t []).getD d 0 < next.length := by
  unfold nextOk at h
  rw [Bool.and_eq_true, Bool.not_eq_true'] at h
  obtain ⟨h1, h2⟩ := h
  have h1 : (next.length : Int) = s := by simpa using h1
  refine ⟨h1, fun t ht => ?_⟩
  have h3 := any_false_get (p := rowOk s) (d := []) h2 t ht
  unfold rowOk at h3
  rw [Bool.and_eq_true, Bool.not_eq_true'] at h3
  have h4 : (next.getD t []).length = 4 := by simpa using h3.1
  refine ⟨h4, fun d hd => ?_⟩
  have h5 := any_false_get (p := fun x => inR x 0 (s - 1)) (d := 0) h3.2 d (by omega)
  simp only [inR, Bool.and_eq_true, decide_eq_true_eq] at h5
  omega
theorem autoOk_get {a : GAuto} (h : autoOk a = true) : 1 ≤ a.states ∧ a.states ≤ 24 ∧ (a.next.length : Int) = a.states ∧ ∀ t, t < a.next.length → (a.next.getD t []).length = 4 ∧ ∀ d, d < 4 → 0 ≤ (a.next.getD t []).getD d 0 ∧ (a.next.getD t []).getD d 0 < a.next.length := by
  unfold autoOk at h
  simp only [Bool.and_eq_true] at h
  have h1 := h.1.1.1
  simp only [inR, Bool.and_eq_true, decide_eq_true_eq] at h1
  exact ⟨h1.1, h1.2, nextOk_get h.2⟩
theorem stepW_lt {a : GAuto} (h : autoOk a = true) {t d : Nat} (ht : t < a.next.length) (hd : d < 4) : stepW a.next t d < a.next.length := by
  obtain ⟨_, _, _, h4⟩ := autoOk_get h
  have := ((h4 t ht).2 d hd)
  unfold stepW
  omega
theorem wordOk_at {s : ByteArray} (h : wordOk s = true) {k : Nat} (hk : k < s.size) : 97 ≤ s[k].toNat ∧ s[k].toNat ≤ 100 := by
  unfold wordOk at h
  rw [Bool.and_eq_true, List.all_eq_true] at h
  have := h.2 s[k] (List.mem_of_getElem? (toList_getElem? s k hk))
  simp [letOk] at this
  omega
theorem readW_step {next : List (List Int)} {s : Nat} {l : ByteArray} {k : Nat} (h : k < l.size) : readW next s (l.data.toList.take (k + 1)) = stepW next (readW next s (l.data.toList.take k)) (l[k].toNat - 97) := by
  unfold readW
  rw [foldl_take_succ _ _ _ _ _ (toList_getElem? l k h)]

/-- The row t of the table, and its cells. -/
theorem row_at {w : World} {A : Option Addr} {next : List (List Int)} (hrow : Row (SliceE IntE) w (· < w.heap.size) A next) {t d : Nat} (ht : t < next.length) (h4 : (next.getD t []).length = 4) (hd : d < 4) :
    ∃ b o b' o' c, A = some ⟨b, o, none⟩ ∧ w.cell? ⟨b, o + t, none⟩ = some (.slice (some ⟨b', o', none⟩) 4 c) ∧ w.cell? ⟨b', o' + d, none⟩ = some (.int .i64 ((next.getD t []).getD d 0)) := by
  obtain ⟨b, o, rfl, hbl, hcell⟩ := hrow.sl ht
  have hx : next[t]? = some (next.getD t []) := by rw [List.getD_eq_getElem?_getD, List.getElem?_eq_getElem ht]; rfl
  obtain ⟨u, hu, A2, c2, rfl, hc2, hm2, hrow2⟩ := hcell t _ hx
  obtain ⟨b2, o2, rfl, hb2, hcell2⟩ := hrow2.int (k := d) (by omega)
  rw [h4] at hu
  exact ⟨b, o, b2, o2, c2, rfl, hu, hcell2 d (by omega)⟩

/-- What RunWord answers. -/
def runWV (a : GAuto) (s : Int) (l : ByteArray) : Int := if autoOk a && wordOk l && inR s 0 (a.states - 1) then readW a.next s.toNat l.data.toList else 0
def runWC (a : GAuto) (s : Int) (l : ByteArray) : Int := if autoOk a && wordOk l then if inR s 0 (a.states - 1) then 0 else 2 else 1

end Go.Proofs.YtfapnipmgmpgaaaGreatDoor

namespace Go.Proofs.YtfapnipmgmpgaaaGreatDoor
open Go.RowKit

theorem drewN_below {w w' : World} (h : ∃ n, w' = w.drewN n) : Below w.heap.size w w' := by
  obtain ⟨n, rfl⟩ := h; exact below_drewN (Below.refl _ _) n

/-- Four cells of a block. -/
def Box4 (w : World) (b : Nat) (c0 c1 c2 c3 : Value) : Prop := w.cell? ⟨b, 0, none⟩ = some c0 ∧ w.cell? ⟨b, 1, none⟩ = some c1 ∧ w.cell? ⟨b, 2, none⟩ = some c2 ∧ w.cell? ⟨b, 3, none⟩ = some c3
theorem Box4.up {w w' : World} {b N : Nat} {c0 c1 c2 c3 : Value} (h : Box4 w b c0 c1 c2 c3) (hb : Below N w w') (hlt : b < N) : Box4 w' b c0 c1 c2 c3 :=
  ⟨(hb.cell (p := ⟨b, 0, none⟩) hlt).trans h.1, (hb.cell (p := ⟨b, 1, none⟩) hlt).trans h.2.1, (hb.cell (p := ⟨b, 2, none⟩) hlt).trans h.2.2.1, (hb.cell (p := ⟨b, 3, none⟩) hlt).trans h.2.2.2⟩
theorem Box4.new {w w' : World} {c0 c1 c2 c3 : Value} {t : TypeId} (hb : Below (w.alloc (.cells #[c0, c1, c2, c3] t)).heap.size (w.alloc (.cells #[c0, c1, c2, c3] t)) w') : Box4 w' w.heap.size c0 c1 c2 c3 :=
  Box4.up (w := w.alloc (.cells #[c0, c1, c2, c3] t)) ⟨by simp [go_sem], by simp [go_sem], by simp [go_sem], by simp [go_sem]⟩ hb (by simp)
theorem keep8 {wr W W2 : World} {p q : Nat} {a0 a1 a2 a3 b0 b1 b2 b3 : Value}
    (h : Below wr.heap.size wr W ∧ W.cell? ⟨p, 0, none⟩ = some a0 ∧ W.cell? ⟨p, 1, none⟩ = some a1 ∧ W.cell? ⟨p, 2, none⟩ = some a2 ∧ W.cell? ⟨p, 3, none⟩ = some a3 ∧ W.cell? ⟨q, 0, none⟩ = some b0 ∧ W.cell? ⟨q, 1, none⟩ = some b1 ∧ W.cell? ⟨q, 2, none⟩ = some b2 ∧ W.cell? ⟨q, 3, none⟩ = some b3)
    (h2 : Below W.heap.size W W2) (hp : p < wr.heap.size) (hq : q < wr.heap.size) :
    Below wr.heap.size wr W2 ∧ W2.cell? ⟨p, 0, none⟩ = some a0 ∧ W2.cell? ⟨p, 1, none⟩ = some a1 ∧ W2.cell? ⟨p, 2, none⟩ = some a2 ∧ W2.cell? ⟨p, 3, none⟩ = some a3 ∧ W2.cell? ⟨q, 0, none⟩ = some b0 ∧ W2.cell? ⟨q, 1, none⟩ = some b1 ∧ W2.cell? ⟨q, 2, none⟩ = some b2 ∧ W2.cell? ⟨q, 3, none⟩ = some b3 := by
  obtain ⟨h1, x0, x1, x2, x3, y0, y1, y2, y3⟩ := h
  have A := Box4.up ⟨x0, x1, x2, x3⟩ h2 (Nat.lt_of_lt_of_le hp h1.size)
  have B := Box4.up ⟨y0, y1, y2, y3⟩ h2 (Nat.lt_of_lt_of_le hq h1.size)
  exact ⟨h1.trans (h2.mono h1.size), A.1, A.2.1, A.2.2.1, A.2.2.2, B.1, B.2.1, B.2.2.1, B.2.2.2⟩

end Go.Proofs.YtfapnipmgmpgaaaGreatDoor

namespace Go.Proofs.YtfapnipmgmpgaaaGreatDoor
open Go.RowKit

/-- 'append(s, x)' of one element onto a row of the call's own, with what is known of the block. -/
theorem wpList_push2 {P : Program} {W : World} {ops : Array Oper} {rest : List Oper} {o : Oper} {a : Act} {Q : Exit → Act → World → Prop} (hgd : o.guard = none) (s x : Operand) (t : TypeId)
    (ho : o.op = .call { callee := .builtin .append, args := #[s, x], argTypes := #[t, t] }) {cs : Array Value} {e : TypeId}
    (i : TypeInfo) (z : Value) (size bytes : Nat) (ht : P.underlying t = some (.slice e)) (hi : P.info? e = some i) (hz : i.zero = some z)
    (hsize : i.size = size) (hby : i.bytes = bytes) (hzs : z.cells.size = size) (hsz : 0 < size)
    {base : Nat} {v : Value} {n : Nat} {xs : List Value} (hs : a.eval s = v) (hx : a.eval x = .slice (some ⟨W.heap.size, 0, none⟩) 1 1)
    (hcs : cs.size = size) (h1 : ∀ u ∈ cs.toList, u.oneCell' = true) (hown : W.ownsRow base e size v n xs)
    (hlen : (n + 1) * bytes ≤ 140737488355328) (hn : n + 1 ≤ 140737488355328) (hbase : base ≤ W.heap.size)
    (h : ∀ v' w', w'.ownsRow base e size v' (n + 1) (xs ++ cs.toList) → (W.alloc (.cells cs e)).grownBy w' v.ownBlock → (v'.ownBlock = v.ownBlock ∨ v'.ownBlock = some (W.heap.size + 1)) → wpList P ops Q rest (a.put o.dst v') w') :
    wpList P ops Q (o :: rest) a (W.alloc (.cells cs e)) := by
  refine wpList_plain hgd fun _ hK => ?_
  obtain ⟨v', w', hrun, h2, h3, _, h5⟩ := run_append_own_at (P := P) (W.alloc (.cells cs e)) base t o.type e i z size bytes ht hi hz hsize hby hzs hsz v n xs (hown.alloc _) ⟨W.heap.size, 0, none⟩ 1 1 cs.toList (by simpa using hcs)
    (fun j u hu => by
      have : (W.alloc (.cells cs e)).cell? ⟨W.heap.size, j, none⟩ = cs[j]? := cell_of_row _ _ _ _ e (0, 0) (heap_alloc_new W _)
      have ha : (⟨W.heap.size, 0, none⟩ : Addr).add j = ⟨W.heap.size, j, none⟩ := by unfold Addr.add; split <;> simp_all
      rw [ha, this]; simpa using hu) h1 (by simp only [maxLen]; omega) hlen (by simp; omega)
  unfold Oper.wp execOp
  simp only [ho, resolve, invoke, builtin, Sem.run_bind, Sem.run_pure, Result.andThen_ok, List.map_toArray, List.map_cons, List.map_nil, hs, hx, hrun]
  exact hK _ _ (h v' w' h2 h3 (by simpa using h5))

/-- 'append(s, x)' of one number in a region that draws its order. -/
theorem step_push_int {W : World} {ops : Array Oper} {o : Oper} {a : Act} {K : Act → World → Prop} {Q : Exit → Act → World → Prop} {E : Prop} (hgd : o.guard = none) (s x : Operand)
    (ho : o.op = .call { callee := .builtin .append, args := #[s, x], argTypes := #[112, 112] }) {y : Int} {base : Nat} {v : Value} {l : List Int}
    (hs : a.eval s = v) {N : Nat} (hx : a.eval x = .slice (some ⟨N, 0, none⟩) 1 1) (hc : W.cell? ⟨N, 0, none⟩ = some (.int .i64 y)) (hown : OwnInts W base v l) (hlen : l.length ≤ 1099511627776) (hbase : base ≤ W.heap.size)
    (h : ∀ v' w', OwnInts w' base v' (l ++ [y]) → W.grownBy w' v.ownBlock → (v'.ownBlock = v.ownBlock ∨ v'.ownBlock = some W.heap.size) → K (a.put o.dst v') w') :
    if Region.wanted o (yielded ops a.tmps) = true then Oper.wp Tryz.prog o a W K Q else E := by
  have hw : Region.wanted o (yielded ops a.tmps) = true := by simp [Region.wanted, hgd]
  rw [if_pos hw]
  obtain ⟨i0, hi0, hz0, hz1, hz2⟩ := info_parts Tryz.infoI
  obtain ⟨v', w', hrun, h2, h3, _, h5⟩ := run_append_own_at (P := Tryz.prog) W base 112 o.type 2 i0 (.int .i64 0) 1 8 Tryz.underlying112 hi0 hz0 hz1 hz2 rfl (by decide) v _ _ hown ⟨N, 0, none⟩ 1 1 [.int .i64 y] rfl
    (fun j u hu => by
      cases j with
      | zero => simp at hu; subst hu; simpa [Addr.add] using hc
      | succ j => simp at hu) (by simp [Value.oneCell']) (by simp only [maxLen]; omega) (by omega) hbase
  unfold Oper.wp execOp
  simp only [ho, resolve, invoke, builtin, Sem.run_bind, Sem.run_pure, Result.andThen_ok, List.map_toArray, List.map_cons, List.map_nil, hs, hx, hrun]
  exact h v' w' (by unfold OwnInts; simpa using h2) h3 h5

/-! the plain maps -/
def mapCell (next out : List (List Int)) (r : GRule) (s : Nat) : Int :=
  if r.pair then (out.getD r.right.toNat []).getD ((out.getD r.left.toNat []).getD s 0).toNat 0 else (next.getD s []).getD ((r.letter.data.getD 0 0).toNat - 97) 0
def mapRow (next out : List (List Int)) (r : GRule) : List Int := (List.range next.length).map (mapCell next out r)
def mapsOf (next : List (List Int)) (xs : List GRule) : List (List Int) := xs.foldl (fun out r => out ++ [mapRow next out r]) []
theorem mapsOf_snoc {next : List (List Int)} {xs : List GRule} {k : Nat} {r : GRule} (h : xs[k]? = some r) : mapsOf next (xs.take (k + 1)) = mapsOf next (xs.take k) ++ [mapRow next (mapsOf next (xs.take k)) r] := by
  unfold mapsOf; rw [foldl_take_succ _ _ _ _ _ h]
theorem mapsOf_len (next : List (List Int)) (xs : List GRule) : (mapsOf next xs).length = xs.length := by
  suffices H : ∀ (ys : List GRule) (a : List (List Int)), (ys.foldl (fun out r => out ++ [mapRow next out r]) a).length = a.length + ys.length by simpa [mapsOf] using H xs []
  intro ys
  induction ys with
  | nil => intro a; rfl
  | cons y ys ih => intro a; rw [List.foldl_cons, ih]; simp; omega
/-- All rows are rows of states. -/
def RowsOk (n : Nat) (l : List (List Int)) : Prop := ∀ t, t < l.length → (l.getD t []).length = n ∧ ∀ d, d < n → 0 ≤ (l.getD t []).getD d 0 ∧ (l.getD t []).getD d 0 < n
theorem RowsOk.snoc {n : Nat} {l : List (List Int)} {row : List Int} (h : RowsOk n l) (h1 : row.length = n) (h2 : ∀ d, d < n → 0 ≤ row.getD d 0 ∧ row.getD d 0 < n) : RowsOk n (l ++ [row]) := by
  intro t ht
  rcases Nat.lt_or_ge t l.length with h3 | h3
  · have e : (l ++ [row]).getD t [] = l.getD t [] := by rw [List.getD_eq_getElem?_getD, List.getElem?_append_left h3, List.getD_eq_getElem?_getD]
    rw [e]; exact h t h3
  · have ht' : t = l.length := by simp at ht; omega
    subst ht'
    have e : (l ++ [row]).getD l.length [] = row := by rw [List.getD_eq_getElem?_getD, List.getElem?_append_right (Nat.le_refl _)]; simp
    rw [e]; exact ⟨h1, h2⟩
theorem letter_of_ok {i : Nat} {r : GRule} (h : okRule i r = true) (hp : r.pair = false) : r.letter.size = 1 ∧ 97 ≤ (r.letter.data.getD 0 0).toNat ∧ (r.letter.data.getD 0 0).toNat ≤ 100 := by
  simp only [okRule, hp, isLet, Bool.and_eq_true, Bool.false_eq_true, if_false, decide_eq_true_eq, beq_iff_eq] at h
  omega
theorem pair_of_ok {i : Nat} {r : GRule} (h : okRule i r = true) (hp : r.pair = true) : 0 ≤ r.left ∧ r.left.toNat < i ∧ 0 ≤ r.right ∧ r.right.toNat < i := by
  simp only [okRule, hp, if_true, Bool.and_eq_true, decide_eq_true_eq] at h
  omega
theorem mapCell_ok {a : GAuto} (ha : autoOk a = true) {out : List (List Int)} (ho : RowsOk a.next.length out) {r : GRule} (hr : okRule out.length r = true) {s : Nat} (hs : s < a.next.length) :
    0 ≤ mapCell a.next out r s ∧ mapCell a.next out r s < a.next.length := by
  unfold mapCell
  split
  · rename_i hp
    obtain ⟨h1, h2, h3, h4⟩ := pair_of_ok hr hp
    obtain ⟨g1, g2⟩ := ho _ h2
    obtain ⟨k1, k2⟩ := ho _ h4
    have := g2 s hs
    exact k2 _ (by omega)
  · rename_i hp
    obtain ⟨h1, h2, h3⟩ := letter_of_ok hr (by simpa using hp)
    exact ((autoOk_get ha).2.2.2 s hs).2 _ (by omega)
theorem mapRow_len (next out : List (List Int)) (r : GRule) : (mapRow next out r).length = next.length := by simp [mapRow]
theorem mapRow_get (next out : List (List Int)) (r : GRule) {d : Nat} (hd : d < next.length) : (mapRow next out r).getD d 0 = mapCell next out r d := by
  rw [mapRow, List.getD_eq_getElem?_getD, List.getElem?_map, List.getElem?_range hd]; rfl
theorem mapsOf_ok {a : GAuto} (ha : autoOk a = true) {xs : List GRule} {ls : List Int} (hl : lens xs = some ls) : ∀ k, k ≤ xs.length → RowsOk a.next.length (mapsOf a.next (xs.take k)) := by
  intro k
  induction k with
  | zero => intro _ t ht; simp [mapsOf] at ht
  | succ k ih =>
    intro hk
    have hr := getR_at (xs := xs) (r := k) (by omega)
    have h1 := ih (by omega)
    have hok := (lens_steps hl k _ hr).1
    have hlen : (mapsOf a.next (xs.take k)).length = k := by rw [mapsOf_len, List.length_take]; omega
    rw [mapsOf_snoc hr]
    refine h1.snoc (mapRow_len _ _ _) fun d hd => ?_
    rw [mapRow_get _ _ _ hd]
    exact mapCell_ok ha h1 (by rw [hlen]; exact hok) hd

/-- The cells of a table of numbers. -/
theorem cells2 {w : World} {S : Nat → Prop} {A : Option Addr} {l : List (List Int)} (hrow : Row (SliceE IntE) w S A l) (hl : 0 < l.length) :
    ∃ b o, A = some ⟨b, o, none⟩ ∧ S b ∧ ∀ t d, t < l.length → d < (l.getD t []).length → ∃ b' o' c, w.cell? ⟨b, o + t, none⟩ = some (.slice (some ⟨b', o', none⟩) (l.getD t []).length c) ∧ S b' ∧ w.cell? ⟨b', o' + d, none⟩ = some (.int .i64 ((l.getD t []).getD d 0)) := by
  obtain ⟨b, o, rfl, hbl, hcell⟩ := hrow.sl hl
  refine ⟨b, o, rfl, hbl, fun t d ht hd => ?_⟩
  have hx : l[t]? = some (l.getD t []) := by rw [List.getD_eq_getElem?_getD, List.getElem?_eq_getElem ht]; rfl
  obtain ⟨u, hu, A2, c2, rfl, hc2, hm2, hrow2⟩ := hcell t _ hx
  obtain ⟨b2, o2, rfl, hb2, hcell2⟩ := hrow2.int (k := d) hd
  exact ⟨b2, o2, c2, hu, hb2, hcell2 d hd⟩
end Go.Proofs.YtfapnipmgmpgaaaGreatDoor

namespace Go.Proofs.YtfapnipmgmpgaaaGreatDoor
open Go.RowKit

theorem own_grown {w w' : World} {base e s : Nat} {v : Value} {n : Nat} {xs : List Value} {row : Option Nat} (h : w.ownsRow base e s v n xs) (hg : w.grownBy w' row) (hne : ∀ g, v.ownBlock = some g → some g ≠ row) : w'.ownsRow base e s v n xs :=
  own_keep h fun g hgg => hg.block g (h.lt g hgg).2 (hne g hgg)
theorem ownSl_empty {w : World} {base N : Nat} (hN : N = w.heap.size) (hb : base ≤ w.heap.size) : (w.alloc (Obj.cells #[] 112)).ownsRow base 112 1 (Value.slice (some ⟨N, 0, none⟩) 0 0) 0 [] := by
  subst hN
  exact World.ownsRow_lit w #[] 0 hb (Nat.zero_le _) rfl
theorem leDA (w : World) (o : Obj) : w.heap.size ≤ (w.alloc o).drew.heap.size := Nat.le_trans (by simp) (Nat.le_refl _)
theorem isPair_b (l : ByteArray) (a b : Int) (w : World) :
    Calls Tryz.prog 122 #[.agg #[.string l, .int .i64 a, .int .i64 b]] w fun e w' => e = .returned (.bool (l.toList.isEmpty)) ∧ Below w.heap.size w w' :=
  (isPair_any l a b w).mono fun _ _ ⟨he, hw⟩ => ⟨he, hw ▸ (Below.refl _ _).alloc (Nat.le_refl _) _⟩
theorem keepM {W W2 : World} {row : Option Nat} {N : Nat} {p0 p1 p2 p3 p4 p5 : Addr} {v0 v1 v2 v3 v4 v5 : Value}
    (h : W.cell? p0 = some v0 ∧ W.cell? p1 = some v1 ∧ W.cell? p2 = some v2 ∧ W.cell? p3 = some v3 ∧ W.cell? p4 = some v4 ∧ W.cell? p5 = some v5) (hg : W.grownBy W2 row) (hr : ∀ g, row = some g → N ≤ g)
    (h0 : p0.block < N) (h1 : p1.block < N) (h2 : p2.block < N) (h3 : p3.block < N) (h4 : p4.block < N) (h5 : p5.block < N) :
    W2.cell? p0 = some v0 ∧ W2.cell? p1 = some v1 ∧ W2.cell? p2 = some v2 ∧ W2.cell? p3 = some v3 ∧ W2.cell? p4 = some v4 ∧ W2.cell? p5 = some v5 := by
  have k : ∀ {p : Addr} {v : Value}, W.cell? p = some v → p.block < N → W2.cell? p = some v := fun {p v} hc hp => hg.cell hc (fun e => by have := hr _ e.symm; omega)
  exact ⟨k h.1 h0, k h.2.1 h1, k h.2.2.1 h2, k h.2.2.2.1 h3, k h.2.2.2.2.1 h4, k h.2.2.2.2.2 h5⟩
theorem maps_push {N B : Nat} {wo wr w2 : World} {outv v' rowv : Value} {k : Nat} {vs : List Value} {M : List (List Int)} {row : List Int} {o : Obj} (hN : N ≤ wo.heap.size) (hB : wo.heap.size ≤ B) (hown : wo.ownsRow N 112 1 outv k vs)
    (hea : Each IntE wo (fun b => N ≤ b ∧ b < wo.heap.size ∧ some b ≠ outv.ownBlock) vs M) (hb : Below wo.heap.size wo wr) (hrow : OwnInts wr B rowv row) (hg : (wr.alloc o).grownBy w2 outv.ownBlock) (hv : v'.ownBlock = outv.ownBlock ∨ v'.ownBlock = some (wr.heap.size + 1)) :
    Each IntE w2 (fun b => N ≤ b ∧ b < w2.heap.size ∧ some b ≠ v'.ownBlock) (vs ++ [rowv]) (M ++ [row]) := by
  have hs1 : wo.heap.size ≤ wr.heap.size := hb.size
  have hs2 : wr.heap.size < w2.heap.size := Nat.lt_of_lt_of_le (by simp) hg.size
  have hob := fun g hg => (hown.lt g hg).2
  have h1 := hea.keep ((Keep.of_below hb).mono fun b h => h.2.1)
  have h2 := h1.keep ((Keep.of_below ((Below.refl wr.heap.size wr).alloc (Nat.le_refl _) o)).mono fun b h => by have := h.2.1; omega)
  have h3 := h2.keep ((Keep.of_grown hg).mono fun b h => ⟨by have := h.2.1; simp; omega, h.2.2⟩)
  have h4 := h3.more (S' := fun b => N ≤ b ∧ b < w2.heap.size ∧ some b ≠ v'.ownBlock) fun b h => ⟨h.1, by have := h.2.1; omega, fun e => by
    rcases hv with hv | hv
    · exact h.2.2 (e.trans hv)
    · rw [hv] at e; injection e with e; have := h.2.1; omega⟩
  refine h4.snoc ?_
  have r1 := World.ownsRow.alloc hrow o
  have r2 : OwnInts w2 B rowv row := own_grown r1 hg fun g hgg e => by
    have := (World.ownsRow.lt hrow g hgg).1
    have := hob g e.symm
    omega
  refine r2.slS fun g hgg => ⟨?_, ?_, ?_⟩
  · have := (World.ownsRow.lt hrow g hgg).1; omega
  · have := (World.ownsRow.lt hrow g hgg).2; omega
  · intro e
    rcases hv with hv | hv
    · have := hob g (hv ▸ e.symm); have := (World.ownsRow.lt hrow g hgg).1; omega
    · rw [hv] at e; injection e with e; have := (World.ownsRow.lt hrow g hgg).2; omega
theorem keepM3 {W W2 : World} {row : Option Nat} {N : Nat} {p0 p1 p2 : Addr} {v0 v1 v2 : Value}
    (h : W.cell? p0 = some v0 ∧ W.cell? p1 = some v1 ∧ W.cell? p2 = some v2) (hg : W.grownBy W2 row) (hr : ∀ g, row = some g → N ≤ g)
    (h0 : p0.block < N) (h1 : p1.block < N) (h2 : p2.block < N) :
    W2.cell? p0 = some v0 ∧ W2.cell? p1 = some v1 ∧ W2.cell? p2 = some v2 := by
  have k : ∀ {p : Addr} {v : Value}, W.cell? p = some v → p.block < N → W2.cell? p = some v := fun {p v} hc hp => hg.cell hc (fun e => by have := hr _ e.symm; omega)
  exact ⟨k h.1 h0, k h.2.1 h1, k h.2.2 h2⟩
def MapsPost (w : World) (m : List (List Int)) (e : Ending) (w' : World) : Prop :=
  ∃ v, e = .returned v ∧ SlS (SliceE IntE) w' (fun b => w.heap.size ≤ b ∧ b < w'.heap.size) v m ∧ Below w.heap.size w w'

end Go.Proofs.YtfapnipmgmpgaaaGreatDoor

namespace Go.Proofs.YtfapnipmgmpgaaaGreatDoor
open Go.RowKit

theorem keepN {W W2 : World} {row : Option Nat} {p0 p1 p2 p3 p4 p5 : Addr} {v0 v1 v2 v3 v4 v5 : Value}
    (h : W.cell? p0 = some v0 ∧ W.cell? p1 = some v1 ∧ W.cell? p2 = some v2 ∧ W.cell? p3 = some v3 ∧ W.cell? p4 = some v4 ∧ W.cell? p5 = some v5) (hg : W.grownBy W2 row)
    (h0 : some p0.block ≠ row) (h1 : some p1.block ≠ row) (h2 : some p2.block ≠ row) (h3 : some p3.block ≠ row) (h4 : some p4.block ≠ row) (h5 : some p5.block ≠ row) :
    W2.cell? p0 = some v0 ∧ W2.cell? p1 = some v1 ∧ W2.cell? p2 = some v2 ∧ W2.cell? p3 = some v3 ∧ W2.cell? p4 = some v4 ∧ W2.cell? p5 = some v5 :=
  ⟨hg.cell h.1 h0, hg.cell h.2.1 h1, hg.cell h.2.2.1 h2, hg.cell h.2.2.2.1 h3, hg.cell h.2.2.2.2.1 h4, hg.cell h.2.2.2.2.2 h5⟩
theorem keepN3 {W W2 : World} {row : Option Nat} {p0 p1 p2 : Addr} {v0 v1 v2 : Value}
    (h : W.cell? p0 = some v0 ∧ W.cell? p1 = some v1 ∧ W.cell? p2 = some v2) (hg : W.grownBy W2 row) (h0 : some p0.block ≠ row) (h1 : some p1.block ≠ row) (h2 : some p2.block ≠ row) :
    W2.cell? p0 = some v0 ∧ W2.cell? p1 = some v1 ∧ W2.cell? p2 = some v2 :=
  ⟨hg.cell h.1 h0, hg.cell h.2.1 h1, hg.cell h.2.2 h2⟩

end Go.Proofs.YtfapnipmgmpgaaaGreatDoor

namespace Go.Proofs.YtfapnipmgmpgaaaGreatDoor
open Go.RowKit

/-- The value v reads as a ride: an automaton, a grammar, its lengths, its maps. -/
def RideV (w : World) (B : Nat) (v : Value) (a : GAuto) (xs : List GRule) (ls : List Int) : Prop :=
  ∃ vF vN vR vL vM, v = .agg #[.int .i64 a.states, .int .i64 a.start, vF, vN, vR, vL, vM] ∧ Sl IntE w B vF a.finals ∧ Sl (SliceE IntE) w B vN a.next ∧ Sl RuleE w B vR xs ∧ Sl IntE w B vL ls ∧ Sl (SliceE IntE) w B vM (mapsOf a.next xs)
theorem RideV.below {w w' : World} {B : Nat} {v : Value} {a : GAuto} {xs : List GRule} {ls : List Int} (h : RideV w B v a xs ls) (hb : Below B w w') : RideV w' B v a xs ls := by
  obtain ⟨vF, vN, vR, vL, vM, rfl, h1, h2, h3, h4, h5⟩ := h
  exact ⟨vF, vN, vR, vL, vM, rfl, h1.below hb, h2.below hb, h3.below hb, h4.below hb, h5.below hb⟩
theorem RideV.le {w : World} {B B' : Nat} {v : Value} {a : GAuto} {xs : List GRule} {ls : List Int} (h : RideV w B v a xs ls) (hb : B ≤ B') : RideV w B' v a xs ls := by
  obtain ⟨vF, vN, vR, vL, vM, rfl, h1, h2, h3, h4, h5⟩ := h
  exact ⟨vF, vN, vR, vL, vM, rfl, h1.le hb, h2.le hb, h3.le hb, h4.le hb, h5.le hb⟩
theorem RideV.up {w0 w : World} {v : Value} {a : GAuto} {xs : List GRule} {ls : List Int} (h : RideV w0 w0.heap.size v a xs ls) (hb : Below w0.heap.size w0 w) : RideV w w.heap.size v a xs ls := (h.below hb).le hb.size
def RidePost (a : GAuto) (xs : List GRule) (w : World) (e : Ending) (w' : World) : Prop :=
  Below w.heap.size w w' ∧ ((∃ ls v, lens xs = some ls ∧ gramOk xs = true ∧ autoOk a = true ∧ e = .returned (.tuple #[v, .bool true]) ∧ RideV w' w'.heap.size v a xs ls) ∨
    ((autoOk a && gramOk xs) = false ∧ e = .returned (.tuple #[.agg #[.int .i64 0, .int .i64 0, .slice none 0 0, .slice none 0 0, .slice none 0 0, .slice none 0 0, .slice none 0 0], .bool false])))

theorem keepR {N : Nat} {wr W W2 : World} {p q : Nat} {a0 a1 a2 a3 b0 : Value}
    (h : Below N wr W ∧ W.cell? ⟨p, 0, none⟩ = some a0 ∧ W.cell? ⟨p, 1, none⟩ = some a1 ∧ W.cell? ⟨p, 2, none⟩ = some a2 ∧ W.cell? ⟨p, 3, none⟩ = some a3 ∧ W.cell? ⟨q, 0, none⟩ = some b0)
    (h2 : Below W.heap.size W W2) (hN : N ≤ wr.heap.size) (hp : p < N) (hq : q < N) :
    Below N wr W2 ∧ W2.cell? ⟨p, 0, none⟩ = some a0 ∧ W2.cell? ⟨p, 1, none⟩ = some a1 ∧ W2.cell? ⟨p, 2, none⟩ = some a2 ∧ W2.cell? ⟨p, 3, none⟩ = some a3 ∧ W2.cell? ⟨q, 0, none⟩ = some b0 := by
  obtain ⟨h1, x0, x1, x2, x3, y0⟩ := h
  have hs := h1.size
  have A := Box4.up ⟨x0, x1, x2, x3⟩ h2 (by omega)
  exact ⟨h1.trans (h2.mono (by omega)), A.1, A.2.1, A.2.2.1, A.2.2.2, (h2.cell (p := ⟨q, 0, none⟩) (by show q < _; omega)).trans y0⟩
theorem keepRD {N : Nat} {W : World} {p q : Nat} {a0 a1 a2 a3 b0 : Value} (x0 : W.cell? ⟨p, 0, none⟩ = some a0) (x1 : W.cell? ⟨p, 1, none⟩ = some a1) (x2 : W.cell? ⟨p, 2, none⟩ = some a2) (x3 : W.cell? ⟨p, 3, none⟩ = some a3) (y0 : W.cell? ⟨q, 0, none⟩ = some b0) :
    Below N W W.drew ∧ W.drew.cell? ⟨p, 0, none⟩ = some a0 ∧ W.drew.cell? ⟨p, 1, none⟩ = some a1 ∧ W.drew.cell? ⟨p, 2, none⟩ = some a2 ∧ W.drew.cell? ⟨p, 3, none⟩ = some a3 ∧ W.drew.cell? ⟨q, 0, none⟩ = some b0 :=
  ⟨(Below.refl _ _).drew, x0, x1, x2, x3, y0⟩
theorem keepRS {N : Nat} {wr W : World} {p q b o : Nat} {a0 a1 a2 a3 b0 u : Value}
    (h : Below N wr W ∧ W.cell? ⟨p, 0, none⟩ = some a0 ∧ W.cell? ⟨p, 1, none⟩ = some a1 ∧ W.cell? ⟨p, 2, none⟩ = some a2 ∧ W.cell? ⟨p, 3, none⟩ = some a3 ∧ W.cell? ⟨q, 0, none⟩ = some b0)
    (hb : N ≤ b) (hp : p < N) (hq : q < N) :
    Below N wr (W.setCell ⟨b, o, none⟩ u) ∧ (W.setCell ⟨b, o, none⟩ u).cell? ⟨p, 0, none⟩ = some a0 ∧ (W.setCell ⟨b, o, none⟩ u).cell? ⟨p, 1, none⟩ = some a1 ∧ (W.setCell ⟨b, o, none⟩ u).cell? ⟨p, 2, none⟩ = some a2 ∧ (W.setCell ⟨b, o, none⟩ u).cell? ⟨p, 3, none⟩ = some a3 ∧ (W.setCell ⟨b, o, none⟩ u).cell? ⟨q, 0, none⟩ = some b0 := by
  obtain ⟨h1, x0, x1, x2, x3, y0⟩ := h
  have h2 : Below N W (W.setCell ⟨b, o, none⟩ u) := (Below.refl _ _).setCell hb _
  have A := Box4.up ⟨x0, x1, x2, x3⟩ h2 hp
  exact ⟨h1.trans h2, A.1, A.2.1, A.2.2.1, A.2.2.2, (h2.cell (p := ⟨q, 0, none⟩) hq).trans y0⟩

end Go.Proofs.YtfapnipmgmpgaaaGreatDoor

namespace Go.Proofs.YtfapnipmgmpgaaaGreatDoor
open Go.RowKit

def lastI (l : List Int) : Int := l.getD (l.length - 1) 0
theorem last_any (v : Value) (l : List Int) (w : World) (h : Sl IntE w w.heap.size v l) :
    Calls Tryz.prog 87 #[v] w fun e w' => e = .returned (.int .i64 (lastI l)) ∧ w = w' := by
  obtain ⟨A, c, rfl, hc, hm, hrow⟩ := h
  unfold maxLen at hm
  by_cases h0 : l.length = 0
  · have hl : l = [] := List.eq_nil_of_length_eq_zero h0
    subst hl
    go_enter Tryz.func87, Tryz.ntmps87
    go_wp2_with fail
    go_ret
    exact ⟨rfl, rfl⟩
  · obtain ⟨b, o, rfl, hbl, hcell⟩ := hrow.int (k := 0) (by omega)
    have hc0 := hcell (l.length - 1) (by omega)
    have g0 : ((l.length : Int) == 0) = false := by rw [beq_eq_false_iff_ne]; omega
    have hk : ((l.length : Int) - 1).toNat = l.length - 1 := by omega
    have hl : 0 ≤ (l.length : Int) - 1 := by omega
    obtain ⟨x, hx⟩ : ∃ x, l.getD (l.length - 1) 0 = x := ⟨_, rfl⟩
    have Hx := Lib.hid hx
    rw [hx] at hc0
    clear hcell hx
    go_enter Tryz.func87, Tryz.ntmps87
    go_wp2_with fail
    go_ret
    exact ⟨ret_int (by rw [lastI, Hx.out]), rfl⟩

theorem Wk.set {C : Nat → Prop} {w : World} {b o : Nat} {v : Value} (h : ¬ C b) : Wk C w (w.setCell ⟨b, o, none⟩ v).drew :=
  ⟨rfl, rfl, rfl, by show w.heap.size ≤ (w.setCell ⟨b, o, none⟩ v).heap.size; simp, fun k hk => heap_setCell_other w ⟨b, o, none⟩ k v (fun e => h (by have e' : k = b := e; exact e' ▸ hk))⟩
/-- One step of a ride. -/
def stepM (maps : List (List Int)) (s r : Nat) : Nat := ((maps.getD r []).getD s 0).toNat
/-- What stands behind some rules in the state box bs. -/
structure RJ (w0 : World) (bs n : Nat) (C : Nat → Prop) (s : Nat) (w : World) : Prop where
  wk : Wk (fun b => b < w0.heap.size ∧ b ≠ bs) w0 w
  cell : w.cell? ⟨bs, 0, none⟩ = some (.int .i64 s)
  fr : w.frozen? ⟨bs, 0, none⟩ = false
  nc : ¬ C bs
  lt : s < n
theorem RJ.ext {w0 : World} {bs n : Nat} (hbs : bs < w0.heap.size) : ∀ C s w w', RJ w0 bs n C s w → Below w.heap.size w w' → (∀ b, C b → b < w.heap.size) → RJ w0 bs n (ext C w.heap.size w'.heap.size) s w' := by
  intro C s w w' h hb hC
  have hsz := h.wk.size
  refine ⟨h.wk.trans (Wk.of_below hb fun k hk => by have := hk.1; omega), (hb.cell (p := ⟨bs, 0, none⟩) (by show bs < _; omega)).trans h.cell, (hb.frozen (p := ⟨bs, 0, none⟩) (by show bs < _; omega)).trans h.fr, ?_, h.lt⟩
  intro h'
  rcases h' with h' | h'
  · exact h.nc h'
  · omega

theorem foldl_stepM_lt {maps : List (List Int)} {n : Nat} (hok : RowsOk n maps) : ∀ (l : List Nat) (s : Nat), (∀ r ∈ l, r < maps.length) → s < n → l.foldl (stepM maps) s < n := by
  intro l
  induction l with
  | nil => intro s _ h; exact h
  | cons r l ih =>
    intro s hl hs
    refine ih _ (fun x hx => hl x (by simp [hx])) ?_
    have := (hok r (hl r (by simp))).2 s hs
    unfold stepM; omega

end Go.Proofs.YtfapnipmgmpgaaaGreatDoor

namespace Go.Proofs.YtfapnipmgmpgaaaGreatDoor
open Go.RowKit

/-- The length of the word of a grammar. -/
def gramLen (xs : List GRule) : Int := match lens xs with | some ls => lastI ls | none => 0
theorem gramLen_of {xs : List GRule} {ls : List Int} (h : lens xs = some ls) : gramLen xs = lastI ls := by simp [gramLen, h]
theorem lastI_nil : lastI [] = 0 := rfl
theorem lastI_bounds {xs : List GRule} {ls : List Int} (h : lens xs = some ls) : 0 ≤ lastI ls ∧ lastI ls ≤ 1000000000000000 := by
  have hll := lens_length h
  unfold lastI
  by_cases h0 : xs.length = 0
  · have : ls = [] := List.eq_nil_of_length_eq_zero (by omega)
    subst this; simp
  · have := lens_pos' h (r := ls.length - 1) (by omega)
    omega
theorem gramLen_bounds (xs : List GRule) : 0 ≤ gramLen xs ∧ gramLen xs ≤ 1000000000000000 := by
  unfold gramLen
  split
  · rename_i ls h; exact lastI_bounds h
  · omega

set_option maxRecDepth 100000 in
theorem l02Length_any (b o : Nat) (v : Value) (xs : List GRule) (ls : List Int) (w : World) (hl : lens xs = some ls) (hp : w.cell? ⟨b, o, none⟩ = some v) (hbl : b < w.heap.size) (h : Sl RuleE w w.heap.size v xs) (hsm : SmallL xs) (hn : xs.length ≤ 1099511627776) :
    Calls Tryz.prog 56 #[.pointer (some ⟨b, o, none⟩)] w fun e w' => e = .returned (.int .i64 (lastI ls)) ∧ Below w.heap.size w w' := by
  have Hsl := Lib.hid h
  have Hl := Lib.hid hl
  clear h hl
  go_enter Tryz.func56, Tryz.ntmps56
  go_wp2_with fail
  refine (l02Sizes_any _ _ _ _ _ hp hbl Hsl.out hsm hn).mono ?_
  rintro e w1 ⟨hb, (⟨ls', v1, h1, rfl, h2⟩ | ⟨h1, _⟩)⟩
  · have e1 : ls' = ls := by rw [Hl.out] at h1; injection h1 with h1; exact h1.symm
    subst e1
    have HB := Lib.hid hb
    have hsl := h2.sl
    obtain ⟨A, c, rfl, hc, hm, hrow⟩ := hsl
    unfold maxLen at hm
    clear h1 h2 hb
    by_cases h0 : ls'.length = 0
    · have hl : ls' = [] := List.eq_nil_of_length_eq_zero h0
      subst hl
      clear hrow
      go_wp2_with fail
      go_ret
      exact ⟨rfl, HB.out⟩
    · obtain ⟨b, o, rfl, hbl, hcell⟩ := hrow.int (k := 0) (by omega)
      have hc0 := hcell (ls'.length - 1) (by omega)
      have g0 : ((ls'.length : Int) == 0) = false := by rw [beq_eq_false_iff_ne]; omega
      have hk : ((ls'.length : Int) - 1).toNat = ls'.length - 1 := by omega
      have hl : 0 ≤ (ls'.length : Int) - 1 := by omega
      have hwr : IntKind.i64.wrap ((ls'.length : Int) - 1) = (ls'.length : Int) - 1 := IntWalk.i64_in _ (by omega)
      obtain ⟨x, hx⟩ : ∃ x, ls'.getD (ls'.length - 1) 0 = x := ⟨_, rfl⟩
      have Hx := Lib.hid hx
      rw [hx] at hc0
      clear hcell hx hrow
      go_wp2_with fail
      go_ret
      exact ⟨ret_int (by rw [lastI, Hx.out]), HB.out⟩
  · rw [Hl.out] at h1; cases h1

def lenV (xs : List GRule) : Int := if gramOk xs then gramLen xs else 0
def lenC (xs : List GRule) : Int := if gramOk xs then 0 else 1
set_option maxRecDepth 100000 in
theorem LengthOf_any (v : Value) (xs : List GRule) (w : World) (h : Sl RuleE w w.heap.size v xs) (hn : xs.length ≤ 1099511627776) :
    Calls Tryz.prog 41 #[.agg #[v]] w fun e w' => e = .returned (.tuple #[.int .i64 (lenV xs), .int .i64 (lenC xs)]) ∧ Below w.heap.size w w' := by
  have h1 := fun o => (h.below ((Below.refl w.heap.size w).alloc (Nat.le_refl _) o)).le (B' := (w.alloc o).heap.size) (by simp)
  have H1 := Lib.hid h1
  clear h1 h
  go_enter Tryz.func41, Tryz.ntmps41
  go_wp2_with fail
  refine (lengths_any _ _ _ (H1.out _) hn).mono ?_
  rintro e w1 ⟨hb, (⟨ls, v1, h1, rfl, h2⟩ | ⟨h1, rfl⟩)⟩
  · have HL := Lib.hid h2.sl
    have H1' := Lib.hid h1
    have HB := Lib.hid hb
    obtain ⟨A, c, rfl, _⟩ := h2.sl
    clear h1 h2 hb
    by_cases hc : xs.length ≤ 400
    · have hd : decide (xs.length ≤ 400) = true := by simp [hc]
      have hg : gramOk xs = true := by simp [gramOk, H1'.out, hc]
      have Hg := Lib.hid hg
      rw [hd]
      clear hd hc hg
      go_wp2_with fail
      refine (last_any _ ls _ HL.out).mono ?_
      rintro e w2 ⟨rfl, rfl⟩
      go_wp2_with fail
      go_ret2
      exact ⟨by simp [lenV, lenC, Hg.out, gramLen_of H1'.out], ((Below.refl _ _).alloc (Nat.le_refl _) _).trans (HB.out.mono (by simp))⟩
    · have hd : decide (xs.length ≤ 400) = false := by simp [hc]
      have hg : gramOk xs = false := by simp [gramOk, hc]
      have Hg := Lib.hid hg
      rw [hd]
      clear hd hc hg
      go_wp2_with fail
      go_ret2
      exact ⟨by simp [lenV, lenC, Hg.out], ((Below.refl _ _).alloc (Nat.le_refl _) _).trans (HB.out.mono (by simp))⟩
  · have hg : gramOk xs = false := by simp [gramOk, h1]
    have Hg := Lib.hid hg
    have HB := Lib.hid hb
    clear h1 hg hb
    go_wp2_with fail
    go_ret2
    exact ⟨by simp [lenV, lenC, Hg.out], ((Below.refl _ _).alloc (Nat.le_refl _) _).trans (HB.out.mono (by simp))⟩
end Go.Proofs.YtfapnipmgmpgaaaGreatDoor

namespace Go.Proofs.YtfapnipmgmpgaaaGreatDoor
open Go.RowKit

/-- An edit. -/
structure GEdit where
  kind : Int
  i : Int
  j : Int
  k : Int
  part : List GRule
  map : ByteArray
def usesJ (k : Int) : Bool := decide (2 ≤ k)
def usesK (k : Int) : Bool := k == 3 || k == 4 || k == 6
def EditV (w : World) (B : Nat) (v : Value) (e : GEdit) : Prop := ∃ vR, v = .agg #[.int .i64 e.kind, .int .i64 e.i, .int .i64 e.j, .int .i64 e.k, vR, .string e.map] ∧ Sl RuleE w B vR e.part
theorem EditV.below {w w' : World} {B : Nat} {v : Value} {e : GEdit} (h : EditV w B v e) (hb : Below B w w') : EditV w' B v e := by
  obtain ⟨vR, rfl, h1⟩ := h; exact ⟨vR, rfl, h1.below hb⟩
theorem EditV.le {w : World} {B B' : Nat} {v : Value} {e : GEdit} (h : EditV w B v e) (hb : B ≤ B') : EditV w B' v e := by
  obtain ⟨vR, rfl, h1⟩ := h; exact ⟨vR, rfl, h1.le hb⟩
theorem EditV.up {w0 w : World} {v : Value} {e : GEdit} (h : EditV w0 w0.heap.size v e) (hb : Below w0.heap.size w0 w) : EditV w w.heap.size v e := (h.below hb).le hb.size

def numOk (n : Int) (told : Bool) : Bool := if told then inR n 0 1000000000000000 else n == 0
def editOk (e : GEdit) : Bool :=
  inR e.kind 1 7 && inR e.i 0 1000000000000000 && numOk e.j (usesJ e.kind) && numOk e.k (usesK e.kind) && !(usesJ e.kind && decide (e.j < e.i)) &&
    (decide (0 < e.part.length) == (e.kind == 1)) && gramOk e.part && (if e.kind == 7 then e.map.size == 4 && wordOk e.map else e.map.size == 0)
def editFits (e : GEdit) (n : Int) : Bool :=
  if e.kind = 1 then decide (e.i ≤ n) else if e.kind = 3 then decide (e.j ≤ n) && decide (e.k ≤ n) else if e.kind = 4 then decide (e.j ≤ n) && (decide (e.k ≤ e.i) || (decide (e.j ≤ e.k) && decide (e.k ≤ n))) else decide (e.j ≤ n)
/-- The length behind an edit. -/
def editLen (e : GEdit) (n : Int) : Int :=
  if e.kind = 1 then n + gramLen e.part else if e.kind = 2 then n - (e.j - e.i) else if e.kind = 3 then n + (e.j - e.i) else if e.kind = 6 then n - (e.j - e.i) + (e.j - e.i) * e.k else n
def lessP (e : GEdit) (p : Int) : Int := if p ≤ e.i then p else if p < e.j then e.i else p - (e.j - e.i)
def placeP (e : GEdit) (p : Int) : Int :=
  if e.kind = 1 then (if e.i < p then p + gramLen e.part else p)
  else if e.kind = 2 then lessP e p
  else if e.kind = 3 then (if e.k < p then p + (e.j - e.i) else p)
  else if e.kind = 4 then (if e.i < p ∧ p < e.j then lessP e e.k + p - e.i else if lessP e e.k < lessP e p then lessP e p + (e.j - e.i) else lessP e p)
  else if e.kind = 5 then (if e.i < p ∧ p < e.j then e.i + e.j - p else p)
  else if e.kind = 6 then (if e.j ≤ p then p - (e.j - e.i) + (e.j - e.i) * e.k else if (e.i < p ∧ p < e.j) ∧ e.k = 0 then e.i else p)
  else p
/-- What PlaceAfter answers. -/
def paC (n : Int) (e : GEdit) (p : Int) : Int := if editOk e then if inR n 0 1000000000000000 && inR p 0 n && editFits e n then if editLen e n ≤ 1000000000000000 then 0 else 3 else 2 else 1
def paV (n : Int) (e : GEdit) (p : Int) : Int := if paC n e p = 0 then placeP e p else 0
/-- Six cells of a block. -/
def Box6 (w : World) (b : Nat) (c0 c1 c2 c3 c4 c5 : Value) : Prop := w.cell? ⟨b, 0, none⟩ = some c0 ∧ w.cell? ⟨b, 1, none⟩ = some c1 ∧ w.cell? ⟨b, 2, none⟩ = some c2 ∧ w.cell? ⟨b, 3, none⟩ = some c3 ∧ w.cell? ⟨b, 4, none⟩ = some c4 ∧ w.cell? ⟨b, 5, none⟩ = some c5
theorem Box6.up {w w' : World} {b N : Nat} {c0 c1 c2 c3 c4 c5 : Value} (h : Box6 w b c0 c1 c2 c3 c4 c5) (hb : Below N w w') (hlt : b < N) : Box6 w' b c0 c1 c2 c3 c4 c5 := by
  obtain ⟨h0, h1, h2, h3, h4, h5⟩ := h
  have k : ∀ {o : Nat} {v : Value}, w.cell? ⟨b, o, none⟩ = some v → w'.cell? ⟨b, o, none⟩ = some v := fun {o v} hc => (hb.cell (p := ⟨b, o, none⟩) hlt).trans hc
  exact ⟨k h0, k h1, k h2, k h3, k h4, k h5⟩
theorem Box6.new {w w' : World} {c0 c1 c2 c3 c4 c5 : Value} {t : TypeId} (hb : Below (w.alloc (.cells #[c0, c1, c2, c3, c4, c5] t)).heap.size (w.alloc (.cells #[c0, c1, c2, c3, c4, c5] t)) w') : Box6 w' w.heap.size c0 c1 c2 c3 c4 c5 :=
  Box6.up (w := w.alloc (.cells #[c0, c1, c2, c3, c4, c5] t)) ⟨by simp [go_sem], by simp [go_sem], by simp [go_sem], by simp [go_sem], by simp [go_sem], by simp [go_sem]⟩ hb (by simp)
theorem kind7 {k : Int} (h : inR k 1 7 = true) : k = 1 ∨ k = 2 ∨ k = 3 ∨ k = 4 ∨ k = 5 ∨ k = 6 ∨ k = 7 := by
  have : 1 ≤ k ∧ k ≤ 7 := by simpa [inR] using h
  omega
theorem numOk_get {n : Int} {b : Bool} (h : numOk n b = true) : 0 ≤ n ∧ n ≤ 1000000000000000 := by
  cases b
  · have : n = 0 := by simpa [numOk] using h
    omega
  · simpa [numOk, inR] using h
theorem editOk_get {e : GEdit} (h : editOk e = true) : inR e.kind 1 7 = true ∧ (0 ≤ e.i ∧ e.i ≤ 1000000000000000) ∧ (0 ≤ e.j ∧ e.j ≤ 1000000000000000) ∧ (0 ≤ e.k ∧ e.k ≤ 1000000000000000) ∧ (2 ≤ e.kind → e.i ≤ e.j) ∧ (e.kind = 1 → e.j = 0) ∧ gramOk e.part = true := by
  simp only [editOk, Bool.and_eq_true, Bool.not_eq_true'] at h
  obtain ⟨⟨⟨⟨⟨⟨⟨h1, h2⟩, h3⟩, h4⟩, h5⟩, h6⟩, h7⟩, h8⟩ := h
  refine ⟨h1, by simpa [inR] using h2, numOk_get h3, numOk_get h4, ?_, ?_, h7⟩
  · intro hk
    simp [usesJ] at h5
    have := h5 hk
    omega
  · intro hk
    rw [hk] at h3
    simpa [numOk, usesJ] using h3
end Go.Proofs.YtfapnipmgmpgaaaGreatDoor

namespace Go.Proofs.YtfapnipmgmpgaaaGreatDoor
open Go.RowKit

def szE (e : GEdit) (left : Int) : Int := if szRs e.part left < 0 then -1 else if szRs e.part left - e.map.size < 0 then -1 else szRs e.part left - e.map.size
set_option maxRecDepth 100000 in
theorem szEdit_any (v : Value) (e : GEdit) (left : Int) (w : World) (h : EditV w w.heap.size v e) (hsm : SmallL e.part) (hm : e.map.size ≤ maxLen) (hl : 0 ≤ left ∧ left ≤ 1048576) :
    Calls Tryz.prog 10 #[v, .int .i64 left] w fun r w' => r = .returned (.int .i64 (szE e left)) ∧ Below w.heap.size w w' := by
  obtain ⟨vR, rfl, hR⟩ := h
  unfold maxLen at hm
  have HR := Lib.hid (fun o => (hR.below ((Below.refl w.heap.size w).alloc (Nat.le_refl _) o)).le (B' := (w.alloc o).heap.size) (by simp))
  obtain ⟨AR, cR, rfl, _⟩ := hR
  go_enter Tryz.func10, Tryz.ntmps10
  go_wp2_with fail
  refine (szGrammar_any _ e.part _ _ (HR.out _) hsm hl).mono ?_
  rintro r w1 ⟨rfl, hb1⟩
  have z1 : w.heap.size < w1.heap.size := Nat.lt_of_lt_of_le (by simp) hb1.size
  have x5 := (hb1.cell (p := ⟨w.heap.size, 5, none⟩) (by simp)).trans (show _ = some (Value.string e.map) by simp [go_sem])
  have B1 := Lib.hid (((Below.refl w.heap.size w).alloc (Nat.le_refl _) _).trans (hb1.mono (by simp)))
  clear hb1
  by_cases c1 : szRs e.part left < 0
  · rw [if_pos c1]
    have C1 := Lib.hid c1
    clear c1
    go_wp2_with fail
    go_ret
    exact ⟨ret_int (by rw [szE, if_pos C1.out]), B1.out⟩
  · rw [if_neg c1]
    obtain ⟨hle, _⟩ := szRs_le e.part left (by omega)
    have C1 := Lib.hid c1
    obtain ⟨X, hX⟩ : ∃ X, szRs e.part left = X := ⟨_, rfl⟩
    rw [hX] at c1 hle
    rw [hX]
    have HX := Lib.hid hX
    have ws : IntKind.i64.wrap (X - (e.map.size : Int)) = X - (e.map.size : Int) := IntWalk.i64_in _ (by omega)
    clear hX
    by_cases c2 : X - (e.map.size : Int) < 0
    · have C2 := Lib.hid c2
      go_wp2_with fail
      go_ret
      exact ⟨ret_int (by rw [szE, if_neg (by have := C1.out; omega), HX.out, if_pos C2.out]), B1.out⟩
    · have C2 := Lib.hid c2
      go_wp2_with fail
      go_ret
      exact ⟨ret_int (by rw [szE, if_neg (by have := C1.out; omega), HX.out, if_neg (by have := C2.out; omega)]), B1.out⟩

set_option maxRecDepth 100000 in
set_option maxHeartbeats 1000000 in
theorem toEdit_any (v : Value) (e : GEdit) (w : World) (h : EditV w w.heap.size v e) (hl : e.part.length ≤ 1048576) :
    Calls Tryz.prog 13 #[v] w fun r w' => ∃ v', r = .returned v' ∧ EditV w' w'.heap.size v' e ∧ Below w.heap.size w w' := by
  obtain ⟨k, i, j, kk, part, map⟩ := e
  obtain ⟨vR, rfl, hR⟩ := h
  simp only at hR hl ⊢
  have hB := fun o o' o'' => (((Below.refl w.heap.size w).alloc (Nat.le_refl _) o).alloc (by simp) o').alloc (by simp; omega) o''
  have HB := Lib.hid hB
  have HR := Lib.hid hR
  clear hB
  obtain ⟨AR, cR, rfl, _⟩ := hR
  go_enter Tryz.func13, Tryz.ntmps13
  go_wp2_with fail
  refine (toGrammar_any _ part _ ((HR.out.below (HB.out _ _ _)).le (by first | omega | (simp; done) | (simp; omega))) hl).mono ?_
  rintro r w1 ⟨v1, rfl, hown1, hb1⟩
  obtain ⟨A1, c1, rfl, _⟩ := own_nil hown1
  obtain ⟨hc1, hf1⟩ := bcell hb1
  have hz1 : w.heap.size + 3 ≤ w1.heap.size := by have := hb1.size; simp at this; omega
  have Hown := Lib.hid hown1
  have HB1 := Lib.hid ((HB.out _ _ _).trans (hb1.mono (by simp; omega)))
  have hx : w.heap.size + 1 + 1 < w1.heap.size := by omega
  have hy : w.heap.size + 1 < w1.heap.size := by omega
  have hw0 : w.heap.size < w1.heap.size := by omega
  have p5 : w1.cell? ⟨w.heap.size, 5, none⟩ = some (.string map) := by rw [hc1 _ _ (by simp; omega)]; simp [go_sem]
  have e0 : w1.cell? ⟨w.heap.size + 1 + 1, 0, none⟩ = some (.int .i64 k) := by rw [hc1 _ _ (by simp)]; simp [go_sem]
  have e1 : w1.cell? ⟨w.heap.size + 1 + 1, 1, none⟩ = some (.int .i64 i) := by rw [hc1 _ _ (by simp)]; simp [go_sem]
  have e2 : w1.cell? ⟨w.heap.size + 1 + 1, 2, none⟩ = some (.int .i64 j) := by rw [hc1 _ _ (by simp)]; simp [go_sem]
  have e3 : w1.cell? ⟨w.heap.size + 1 + 1, 3, none⟩ = some (.int .i64 kk) := by rw [hc1 _ _ (by simp)]; simp [go_sem]
  have e4 : w1.cell? ⟨w.heap.size + 1 + 1, 4, none⟩ = some (.slice none 0 0) := by rw [hc1 _ _ (by simp)]; simp [go_sem]
  have e5 : w1.cell? ⟨w.heap.size + 1 + 1, 5, none⟩ = some (.string ⟨#[]⟩) := by rw [hc1 _ _ (by simp)]; simp [go_sem]
  have r0 : w1.cell? ⟨w.heap.size + 1, 0, none⟩ = some (.int .i64 0) := by rw [hc1 _ _ (by simp)]; simp [go_sem]
  have r1 : w1.cell? ⟨w.heap.size + 1, 1, none⟩ = some (.int .i64 0) := by rw [hc1 _ _ (by simp)]; simp [go_sem]
  have r2 : w1.cell? ⟨w.heap.size + 1, 2, none⟩ = some (.int .i64 0) := by rw [hc1 _ _ (by simp)]; simp [go_sem]
  have r3 : w1.cell? ⟨w.heap.size + 1, 3, none⟩ = some (.int .i64 0) := by rw [hc1 _ _ (by simp)]; simp [go_sem]
  have r4 : w1.cell? ⟨w.heap.size + 1, 4, none⟩ = some (.slice none 0 0) := by rw [hc1 _ _ (by simp)]; simp [go_sem]
  have r5 : w1.cell? ⟨w.heap.size + 1, 5, none⟩ = some (.string ⟨#[]⟩) := by rw [hc1 _ _ (by simp)]; simp [go_sem]
  have fx : ∀ o, w1.frozen? ⟨w.heap.size + 1 + 1, o, none⟩ = false := fun o => by rw [hf1 _ _ (by simp)]; simp [go_sem]
  have fy : ∀ o, w1.frozen? ⟨w.heap.size + 1, o, none⟩ = false := fun o => by rw [hf1 _ _ (by simp)]; simp [go_sem]
  clear hb1 hc1 hf1 hown1
  go_wp2
  refine bodyPost_ret (v := .agg #[.int .i64 k, .int .i64 i, .int .i64 j, .int .i64 kk, .slice A1 part.length c1, .string map]) (by simp [results, Tryz.results13, go_sem, r0, r1, r2, r3, r4, r5]) rfl ⟨_, rfl, ⟨_, rfl, ?_⟩, ?_⟩
  · have h1 : SlS RuleE w1 (fun b => w.heap.size + 3 ≤ b ∧ b < w1.heap.size) (.slice A1 part.length c1) part := Hown.out.slS fun g hg => by have := Hown.out.lt g hg; simp at this; omega
    have h2 : ∀ (W : World), SlS RuleE W (fun b => w.heap.size + 3 ≤ b ∧ b < w1.heap.size) (.slice A1 part.length c1) part → ∀ p u, p.block < w.heap.size + 3 → SlS RuleE (W.setCell p u) (fun b => w.heap.size + 3 ≤ b ∧ b < w1.heap.size) (.slice A1 part.length c1) part :=
      fun W hW p u hp => hW.keep (Keep.of_set (fun h => by have := h.1; omega) u)
    refine SlS.more (S := fun b => w.heap.size + 3 ≤ b ∧ b < w1.heap.size) ?_ (fun b h => by simp [World.setCell]; exact h.2)
    show SlS RuleE _ _ _ part
    exact (h2 _ (h2 _ (h2 _ (h2 _ (h2 _ (h2 _ (h2 _ (h2 _ h1 _ _ (by show w.heap.size + 1 + 1 < w.heap.size + 3; omega)) _ _ (by show w.heap.size + 1 + 1 < w.heap.size + 3; omega)) _ _ (by show w.heap.size + 1 < w.heap.size + 3; omega)) _ _ (by show w.heap.size + 1 < w.heap.size + 3; omega)) _ _ (by show w.heap.size + 1 < w.heap.size + 3; omega)) _ _ (by show w.heap.size + 1 < w.heap.size + 3; omega)) _ _ (by show w.heap.size + 1 < w.heap.size + 3; omega)) _ _ (by show w.heap.size + 1 < w.heap.size + 3; omega))
  · exact (Below.setCell (Below.setCell (Below.setCell (Below.setCell (Below.setCell (Below.setCell (Below.setCell (Below.setCell HB1.out (by show w.heap.size ≤ w.heap.size + 1 + 1; omega) _) (by show w.heap.size ≤ w.heap.size + 1 + 1; omega) _) (by show w.heap.size ≤ w.heap.size + 1; omega) _) (by show w.heap.size ≤ w.heap.size + 1; omega) _) (by show w.heap.size ≤ w.heap.size + 1; omega) _) (by show w.heap.size ≤ w.heap.size + 1; omega) _) (by show w.heap.size ≤ w.heap.size + 1; omega) _) (by show w.heap.size ≤ w.heap.size + 1; omega) _)

theorem eqEdit_any (v v' : Value) (e : GEdit) (w : World) (h : EditV w w.heap.size v e) (h' : EditV w w.heap.size v' e) :
    Calls Tryz.prog 16 #[v, v'] w fun r w' => r = .returned (.bool true) ∧ Below w.heap.size w w' := by
  obtain ⟨vR, rfl, hR⟩ := h
  obtain ⟨vR', rfl, hR'⟩ := h'
  have hB := fun o o' => ((Below.refl w.heap.size w).alloc (Nat.le_refl _) o).alloc (by simp) o'
  have HB := Lib.hid hB
  have HR := Lib.hid hR
  have HR' := Lib.hid hR'
  clear hB
  obtain ⟨AR, cR, rfl, _⟩ := hR
  obtain ⟨AR', cR', rfl, _⟩ := hR'
  have q1 : (e.kind != e.kind) = false := by simp
  have q2 : (e.i != e.i) = false := by simp
  have q3 : (e.j != e.j) = false := by simp
  have q4 : (e.k != e.k) = false := by simp
  go_enter Tryz.func16, Tryz.ntmps16
  go_wp2_with fail
  refine (eqGrammar_any _ _ e.part _ ((HR.out.below (HB.out _ _)).le (by first | omega | (simp; done) | (simp; omega))) ((HR'.out.below (HB.out _ _)).le (by first | omega | (simp; done) | (simp; omega)))).mono ?_
  rintro r w1 ⟨rfl, hb1⟩
  have hz1 : w.heap.size + 2 ≤ w1.heap.size := by have := hb1.size; simp at this; omega
  have x5 := (hb1.cell (p := ⟨w.heap.size, 5, none⟩) (by simp; omega)).trans (show _ = some (Value.string e.map) by simp [go_sem])
  have y5 := (hb1.cell (p := ⟨w.heap.size + 1, 5, none⟩) (by simp)).trans (show _ = some (Value.string e.map) by simp [go_sem])
  have B1 := Lib.hid ((HB.out _ _).trans (hb1.mono (by simp; omega)))
  clear hb1
  go_wp2_with fail
  go_ret
  exact ⟨rfl, B1.out⟩
end Go.Proofs.YtfapnipmgmpgaaaGreatDoor

