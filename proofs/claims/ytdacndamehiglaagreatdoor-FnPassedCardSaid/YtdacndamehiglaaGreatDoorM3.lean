import Derived.Test.YtdacndamehiglaaGreatDoorM2
import Derived.Test.YtdacndamehiglaaGreatDoorM1
import Derived.Laws.EntriesVeiled
import Derived.Maps.Keyed
import Derived.DeepKeys4
import Derived.Deep.RegionLaw
import Derived.RangeFuncBox
namespace Go.Proofs.YtdacndamehiglaaGreatDoor
def trimR (same : List Int) (r : GRule) : GRule := if r.pair then pairR (same.getD r.left.toNat 0) (same.getD r.right.toNat 0) else r
def trimStep (p : List GRule × List Int) (r : GRule) : List GRule × List Int := (p.1 ++ [trimR p.2 r], p.2 ++ [((p.1.idxOf (trimR p.2 r) : Nat) : Int)])
def canon (xs : List GRule) : List GRule × List Int := xs.foldl trimStep ([], [])
def OkAll (xs : List GRule) : Prop := ∀ k r, xs[k]? = some r → okRule k r = true
def needStep (ks : List GRule) (l : List Bool) (i : Nat) : List Bool :=
  if l.getD i false && (getR ks i).pair then (l.set (getR ks i).left.toNat true).set (getR ks i).right.toNat true else l
def needDown (ks : List GRule) : Nat → List Bool → List Bool
  | 0, l => l
  | i + 1, l => needDown ks i (needStep ks l i)
def outStep (ks : List GRule) (need : List Bool) (p : List GRule × List Int) (i : Nat) : List GRule × List Int :=
  if need.getD i false then (p.1 ++ [trimR p.2 (getR ks i)], p.2.set i p.1.length) else p
def rootB (xs : List GRule) : List Bool := (List.replicate xs.length false).set ((canon xs).2.getD (xs.length - 1) 0).toNat true
def needL (xs : List GRule) : List Bool := needDown (canon xs).1 xs.length (rootB xs)
def trimO (xs : List GRule) (k : Nat) : List GRule × List Int := (List.range k).foldl (outStep (canon xs).1 (needL xs)) ([], List.replicate xs.length 0)
def trimG (xs : List GRule) : List GRule := (trimO xs xs.length).1
theorem trimR_pair {s : List Int} {r : GRule} (h : r.pair = true) : trimR s r = pairR (s.getD r.left.toNat 0) (s.getD r.right.toNat 0) := by rw [trimR, if_pos h]
theorem trimR_let {s : List Int} {r : GRule} (h : r.pair = false) : trimR s r = r := by rw [trimR, if_neg (by simp [h])]
theorem pairR_pair (a b : Int) : (pairR a b).pair = true := rfl
theorem canon_snoc {xs : List GRule} {k : Nat} {r : GRule} (h : xs[k]? = some r) : canon (xs.take (k + 1)) = trimStep (canon (xs.take k)) r := foldl_take_succ _ _ _ _ _ h
theorem okRule_pair {k : Nat} {a b : Int} (ha : 0 ≤ a ∧ a < k) (hb : 0 ≤ b ∧ b < k) : okRule k (pairR a b) = true := by
  unfold okRule
  rw [if_pos (pairR_pair a b)]
  show (decide (0 ≤ a) && decide (a ≤ (k : Int) - 1) && decide (0 ≤ b) && decide (b ≤ (k : Int) - 1)) = true
  rw [decide_eq_true ha.1, decide_eq_true (show a ≤ (k : Int) - 1 by omega), decide_eq_true hb.1, decide_eq_true (show b ≤ (k : Int) - 1 by omega)]; rfl
theorem okRule_at {k : Nat} {r : GRule} (h : okRule k r = true) (hp : r.pair = true) : 0 ≤ r.left ∧ r.left.toNat < k ∧ 0 ≤ r.right ∧ r.right.toNat < k := by
  unfold okRule at h
  rw [if_pos hp] at h
  simp at h; omega
theorem okRule_let {k : Nat} {r : GRule} (h : okRule k r = true) (hp : r.pair = false) : r.letter.size = 1 ∧ r.left = 0 ∧ r.right = 0 := by
  unfold okRule at h
  rw [if_neg (by simp [hp])] at h
  simp [isLet] at h
  exact ⟨h.1.1.1.1, h.1.2, h.2⟩
theorem okRule_small {k : Nat} {r : GRule} (h : okRule k r = true) : r.letter.size ≤ 1 := by
  cases hp : r.pair with
  | true => have : r.letter.size = 0 := by simpa [GRule.pair] using hp
            omega
  | false => have := (okRule_let h hp).1; omega
structure CanonOk (k : Nat) (p : List GRule × List Int) : Prop where
  l1 : p.1.length = k
  l2 : p.2.length = k
  low : ∀ i, i < k → 0 ≤ p.2.getD i 0 ∧ p.2.getD i 0 ≤ i
  idx : ∀ i, i < k → p.2.getD i 0 = ((p.1.idxOf (getR p.1 i) : Nat) : Int)
  ok : OkAll p.1
theorem getR_some {xs : List GRule} {k : Nat} {r : GRule} (h : xs[k]? = some r) : getR xs k = r := by
  unfold getR; rw [List.getD_eq_getElem?_getD, h]; rfl
theorem getR_append {xs ys : List GRule} {i : Nat} (h : i < xs.length) : getR (xs ++ ys) i = getR xs i := by
  unfold getR; rw [List.getD_eq_getElem?_getD, List.getD_eq_getElem?_getD, List.getElem?_append_left h]
theorem getR_last (xs : List GRule) (r : GRule) : getR (xs ++ [r]) xs.length = r := by
  unfold getR; simp
theorem getR_mem {xs : List GRule} {i : Nat} (h : i < xs.length) : getR xs i ∈ xs := List.mem_of_getElem? (getR_at h)
theorem getI_append {xs ys : List Int} {i : Nat} (h : i < xs.length) : (xs ++ ys).getD i 0 = xs.getD i 0 := by
  rw [List.getD_eq_getElem?_getD, List.getD_eq_getElem?_getD, List.getElem?_append_left h]
theorem getI_last (xs : List Int) (x : Int) : (xs ++ [x]).getD xs.length 0 = x := by simp
theorem OkAll.snoc {xs : List GRule} {r : GRule} (h : OkAll xs) (hr : okRule xs.length r = true) : OkAll (xs ++ [r]) := by
  intro k x hk
  rcases Nat.lt_or_ge k xs.length with hlt | hge
  · rw [List.getElem?_append_left hlt] at hk; exact h k x hk
  · have hl := (List.getElem?_eq_some_iff.1 hk).1
    simp at hl
    have : k = xs.length := by omega
    subst this
    simp at hk; rw [← hk]; exact hr
theorem canon_ok {xs : List GRule} (h : OkAll xs) : ∀ k, k ≤ xs.length → CanonOk k (canon (xs.take k)) := by
  intro k
  induction k with
  | zero => intro _; exact ⟨rfl, rfl, fun i hi => absurd hi (by omega), fun i hi => absurd hi (by omega), fun k r hk => by simp [canon] at hk⟩
  | succ k ih =>
    intro hk
    have H := ih (by omega)
    obtain ⟨r, hr⟩ : ∃ r, xs[k]? = some r := ⟨_, List.getElem?_eq_getElem (by omega)⟩
    have hor := h k r hr
    rw [canon_snoc hr]
    obtain ⟨K, S, hp⟩ : ∃ K S, canon (xs.take k) = (K, S) := ⟨_, _, rfl⟩
    rw [hp] at H ⊢
    have l1 : K.length = k := H.l1
    have l2 : S.length = k := H.l2
    have hx : okRule k (trimR S r) = true := by
      cases hpr : r.pair with
      | true =>
        obtain ⟨h1, h2, h3, h4⟩ := okRule_at hor hpr
        have a1 : 0 ≤ S.getD r.left.toNat 0 ∧ S.getD r.left.toNat 0 ≤ (r.left.toNat : Int) := H.low _ h2
        have a2 : 0 ≤ S.getD r.right.toNat 0 ∧ S.getD r.right.toNat 0 ≤ (r.right.toNat : Int) := H.low _ h4
        rw [trimR_pair hpr]
        exact okRule_pair ⟨a1.1, by omega⟩ ⟨a2.1, by omega⟩
      | false => rw [trimR_let hpr]; exact hor
    obtain ⟨X, hX⟩ : ∃ X, trimR S r = X := ⟨_, rfl⟩
    have e : trimStep (K, S) r = (K ++ [X], S ++ [((K.idxOf X : Nat) : Int)]) := by unfold trimStep; rw [hX]
    rw [e]
    rw [hX] at hx
    refine ⟨by simp [l1], by simp [l2], ?_, ?_, ?_⟩
    · intro i hi
      rcases Nat.lt_or_ge i k with hlt | hge
      · show 0 ≤ (S ++ _).getD i 0 ∧ _
        rw [getI_append (by omega)]; exact H.low i hlt
      · have : i = S.length := by omega
        subst this
        show 0 ≤ (S ++ _).getD S.length 0 ∧ (S ++ _).getD S.length 0 ≤ _
        rw [getI_last]
        have : K.idxOf X ≤ K.length := List.idxOf_le_length
        omega
    · intro i hi
      show (S ++ _).getD i 0 = (((K ++ [X]).idxOf (getR (K ++ [X]) i) : Nat) : Int)
      rcases Nat.lt_or_ge i k with hlt | hge
      · rw [getI_append (by omega), getR_append (by omega), List.idxOf_append, if_pos (getR_mem (by omega))]
        exact H.idx i hlt
      · have : i = K.length := by omega
        subst this
        rw [getR_last]
        have hS : (S ++ [((K.idxOf X : Nat) : Int)]).getD K.length 0 = ((K.idxOf X : Nat) : Int) := by rw [l1, ← l2, getI_last]
        rw [hS, List.idxOf_append]
        split
        · rfl
        · rename_i hn
          rw [List.idxOf_eq_length hn]; simp
    · exact H.ok.snoc (by rw [show (K, S).1.length = k from l1]; exact hx)
theorem needStep_len (ks : List GRule) (l : List Bool) (i : Nat) : (needStep ks l i).length = l.length := by
  unfold needStep; split <;> simp
theorem needDown_len (ks : List GRule) : ∀ (i : Nat) (l : List Bool), (needDown ks i l).length = l.length
  | 0, _ => rfl
  | i + 1, l => by rw [needDown, needDown_len ks i, needStep_len]
theorem needL_len (xs : List GRule) : (needL xs).length = xs.length := by rw [needL, needDown_len]; simp [rootB]
theorem outStep_len (ks : List GRule) (need : List Bool) (p : List GRule × List Int) (i : Nat) : (outStep ks need p i).2.length = p.2.length ∧ (outStep ks need p i).1.length ≤ p.1.length + 1 := by
  unfold outStep; split <;> simp
theorem trimO_succ (xs : List GRule) (k : Nat) : trimO xs (k + 1) = outStep (canon xs).1 (needL xs) (trimO xs k) k := by
  unfold trimO; rw [List.range_succ, List.foldl_append]; rfl
theorem trimO_len (xs : List GRule) : ∀ k, (trimO xs k).2.length = xs.length ∧ (trimO xs k).1.length ≤ k := by
  intro k
  induction k with
  | zero => simp [trimO]
  | succ k ih =>
    rw [trimO_succ]
    have := outStep_len (canon xs).1 (needL xs) (trimO xs k) k
    omega
theorem trimG_len (xs : List GRule) : (trimG xs).length ≤ xs.length := (trimO_len xs xs.length).2
theorem canon_all {xs : List GRule} (h : OkAll xs) : CanonOk xs.length (canon xs) := by
  have := canon_ok h xs.length (Nat.le_refl _)
  rwa [List.take_length] at this
theorem okAll_lens {xs : List GRule} {ls : List Int} (h : lens xs = some ls) : OkAll xs := fun k r hk => (lens_steps h k r hk).1
open Go.RowKit
structure But (b : Nat) (w w' : World) : Prop where
  os : w'.os = w.os
  tape : w'.tape = w.tape
  output : w'.output = w.output
  size : w.heap.size ≤ w'.heap.size
  block : ∀ k, k < w.heap.size → k ≠ b → w'.heap[k]? = w.heap[k]?
theorem But.refl (b : Nat) (w : World) : But b w w := ⟨rfl, rfl, rfl, Nat.le_refl _, fun _ _ _ => rfl⟩
theorem But.trans {b : Nat} {x y z : World} (h : But b x y) (k : But b y z) : But b x z :=
  ⟨k.os.trans h.os, k.tape.trans h.tape, k.output.trans h.output, Nat.le_trans h.size k.size, fun i hi hne => (k.block i (Nat.lt_of_lt_of_le hi h.size) hne).trans (h.block i hi hne)⟩
theorem But.of {b : Nat} {w w' : World} (h : Below w.heap.size w w') : But b w w' := ⟨h.os, h.tape, h.output, h.size, fun k hk _ => h.block k hk⟩
theorem But.below {b B : Nat} {w w' : World} (h : But b w w') (hB : B ≤ b) (hw : B ≤ w.heap.size) : Below B w w' := ⟨h.os, h.tape, h.output, h.size, fun k hk => h.block k (Nat.lt_of_lt_of_le hk hw) (by omega)⟩
theorem But.cell {b : Nat} {w w' : World} (h : But b w w') {p : Addr} (hp : p.block < w.heap.size) (hne : p.block ≠ b) : w'.cell? p = w.cell? p := by
  simp only [World.cell?, h.block _ hp hne]
theorem But.drew {b : Nat} {w w' : World} (h : But b w w') : But b w w'.drew := ⟨h.os, h.tape, h.output, h.size, h.block⟩
theorem But.drewN {b : Nat} {w w' : World} (h : But b w w') (n : Nat) : But b w (w'.drewN n) := ⟨h.os, h.tape, h.output, h.size, h.block⟩
theorem But.setCell {b o : Nat} {w w' : World} (h : But b w w') (v : Value) : But b w (w'.setCell ⟨b, o, none⟩ v) :=
  ⟨h.os, h.tape, h.output, by simpa [World.setCell] using h.size, fun k hk hne => by
    rw [← h.block k hk hne]
    simp only [World.setCell, Array.getElem?_modify]
    rw [if_neg (fun e => hne e.symm)]⟩
theorem But.alloc {b : Nat} {w w' : World} (h : But b w w') (o : Obj) : But b w (w'.alloc o) :=
  ⟨h.os, h.tape, h.output, Nat.le_trans h.size (by simp), fun k hk hne => (Below.heap_alloc w' o k (Nat.lt_of_lt_of_le hk h.size)).trans (h.block k hk hne)⟩
theorem But.tr {b : Nat} {w w1 w2 : World} (h : But b w w1) (hb : Below w1.heap.size w1 w2) : But b w w2 := h.trans (But.of hb)
theorem But.keepS {b : Nat} {w w' : World} (h : But b w w') : Keep (fun k => k ≠ b ∧ k < w.heap.size) w w' := fun k hk => h.block k hk.2 hk.1
def Blk (w : World) (b : Nat) (a : Array Value) (t : TypeId) : Prop := w.heap[b]? = some (.cells a t (0, 0))
section
variable {w w' : World} {b N : Nat} {a : Array Value} {t : TypeId}
theorem Blk.lt (h : Blk w b a t) : b < w.heap.size := (Array.getElem?_eq_some_iff.1 h).1
theorem Blk.up (h : Blk w b a t) (hb : Below w.heap.size w w') : Blk w' b a t := (hb.block b h.lt).trans h
theorem Blk.upB (h : Blk w b a t) (hb : Below N w w') (hlt : b < N) : Blk w' b a t := (hb.block b hlt).trans h
theorem Blk.cell (h : Blk w b a t) {i : Nat} {v : Value} (hi : a[i]? = some v) : w.cell? ⟨b, i, none⟩ = some v := by
  rw [cell_of_row w b i a t (0, 0) h, hi]
theorem Blk.frozen (h : Blk w b a t) (i : Nat) : w.frozen? ⟨b, i, none⟩ = false := by
  simp [World.frozen?, show w.heap[b]? = _ from h]
theorem Blk.set (h : Blk w b a t) (i : Nat) (v : Value) : Blk (w.setCell ⟨b, i, none⟩ v) b (a.setIfInBounds i v) t := by
  obtain ⟨hlt, hk⟩ := Array.getElem?_eq_some_iff.1 h
  show (w.heap.modify b _)[b]? = _
  rw [Array.getElem?_eq_getElem (by rw [Array.size_modify]; exact hlt), Array.getElem_modify_self, hk]
  rfl
theorem Blk.other (h : Blk w b a t) {p : Addr} (hne : b ≠ p.block) (v : Value) : Blk (w.setCell p v) b a t := (Below.heap_setCell w p v b hne).trans h
theorem Blk.alloc (h : Blk w b a t) (o : Obj) : Blk (w.alloc o) b a t := (Below.heap_alloc w o b h.lt).trans h
theorem Blk.drew (h : Blk w b a t) : Blk w.drew b a t := h
theorem Blk.new (w : World) (a : Array Value) (t : TypeId) : Blk (w.alloc (.cells a t)) w.heap.size a t := heap_alloc_new w _
theorem Blk.of_heap (h : w.heap[b]? = some (.cells a t (0, 0))) : Blk w b a t := h
end
theorem Blk.but {w w' : World} {b c : Nat} {a : Array Value} {t : TypeId} (h : Blk w c a t) (hb : But b w w') (hne : c ≠ b) : Blk w' c a t := (hb.block c h.lt hne).trans h
theorem Below.unalloc {w w' : World} {o : Obj} (hb : Below (w.alloc o).heap.size (w.alloc o) w') : Below w.heap.size w w' ∧ w'.heap[w.heap.size]? = some o :=
  ⟨((Below.refl w.heap.size w).alloc (Nat.le_refl _) o).trans (hb.mono (by simp)), (hb.block _ (by simp)).trans (heap_alloc_new w o)⟩
theorem Below.undrew {w w' : World} (hb : Below w.drew.heap.size w.drew w') : Below w.heap.size w w' := ((Below.refl w.heap.size w).drew).trans hb
theorem Below.up {w0 w w' : World} {N : Nat} (h : Below N w0 w) (hb : Below w.heap.size w w') (hN : N ≤ w0.heap.size) : Below N w0 w' := h.trans (hb.mono (Nat.le_trans hN h.size))
theorem Below.tr {w0 w w' : World} (h : Below w0.heap.size w0 w) (hb : Below w.heap.size w w') : Below w0.heap.size w0 w' := h.trans (hb.mono h.size)
def OwnR (w : World) (lo hi : Nat) (v : Value) (l : List GRule) : Prop := OwnRules w lo v l ∧ (∀ g, v.ownBlock = some g → g < hi) ∧ hi ≤ w.heap.size
section
variable {w w' : World} {lo hi : Nat} {v : Value} {l : List GRule} {row : Option Nat}
theorem OwnR.of (h : OwnRules w lo v l) : OwnR w lo w.heap.size v l := ⟨h, fun g hg => (World.ownsRow.lt h g hg).2, Nat.le_refl _⟩
theorem OwnR.up (h : OwnR w lo hi v l) (hb : Below w.heap.size w w') : OwnR w' lo hi v l := ⟨OwnRules.below h.1 hb, h.2.1, Nat.le_trans h.2.2 hb.size⟩
theorem OwnR.rng (h : OwnR w lo hi v l) : ∀ g, v.ownBlock = some g → lo ≤ g ∧ g < hi := fun g hg => ⟨(World.ownsRow.lt h.1 g hg).1, h.2.1 g hg⟩
theorem OwnR.grown (h : OwnR w lo hi v l) (hg : w.grownBy w' row) (hr : ∀ g, row = some g → g < lo ∨ hi ≤ g) : OwnR w' lo hi v l :=
  ⟨OwnRules.keep h.1 hg fun g hgg e => by have h1 := h.rng g hgg; have h2 := hr g e.symm; omega, h.2.1, Nat.le_trans h.2.2 hg.size⟩
theorem OwnR.marked {l' : List GRule} (h : OwnR w lo hi v l) (h' : OwnRules w' lo v l') (hg : w.grownBy w' row) : OwnR w' lo hi v l' := ⟨h', h.2.1, Nat.le_trans h.2.2 hg.size⟩
theorem OwnR.alloc (h : OwnR w lo hi v l) (o : Obj) : OwnR (w.alloc o) lo hi v l := ⟨World.ownsRow.alloc h.1 o, h.2.1, Nat.le_trans h.2.2 (by simp)⟩
theorem OwnR.sl (h : OwnR w lo hi v l) : Sl RuleE w w.heap.size v l := OwnRules.sl h.1
end
theorem Blk.grown {w w' : World} {b : Nat} {a : Array Value} {t : TypeId} {row : Option Nat} (h : Blk w b a t) (hg : w.grownBy w' row) (hne : ∀ g, row = some g → g ≠ b) : Blk w' b a t :=
  (hg.block b h.lt (fun e => hne b e.symm rfl)).trans h
theorem Below.grown {w0 w w' : World} {N : Nat} {row : Option Nat} (h : Below N w0 w) (hN : N ≤ w.heap.size) (hg : w.grownBy w' row) (hr : ∀ g, row = some g → N ≤ g) : Below N w0 w' := h.trans (below_of_grown hg hN hr)
section
variable {σ : Type}
set_option maxRecDepth 100000 in
set_option maxHeartbeats 1000000 in
theorem pieces_any (J : (Nat → Prop) → σ → World → Prop) (step : σ → Nat → σ) (Ok : σ → Nat → Prop) (F : FuncId) (cap : Array Value) (xs : List GRule) (ls : List Int) (i j : Int) (hlens : lens xs = some ls) (hxs : xs.length ≤ 1099511627776)
    (eg : ∀ args w, (callFunc F args).run Tryz.prog w = .ok (.enter F args) w)
    (hext : ∀ C s w w', J C s w → Below w.heap.size w w' → NewNoB w.heap.size w' → (∀ b, C b → b < w.heap.size) → J (ext C w.heap.size w'.heap.size) s w')
    (hwith : ∀ C s (r : Nat) (w : World), J C s w → Ok s r → r < xs.length → (∀ b, C b → b < w.heap.size) → Calls Tryz.prog F (#[.int .i64 r] ++ cap) w (TakePost J C (step s r) w))
    (vL vR : Value) (s : σ) (C : Nat → Prop) (w : World) (hJ : J C s w) (hRu : Runs step Ok s (piecesL xs ls i j)) (hlt : ∀ b, C b → b < w.heap.size) (hL : SlS IntE w C vL ls) (hR : SlS RuleE w C vR xs) :
    Calls Tryz.prog 151 #[.agg #[vR], vL, .int .i64 i, .int .i64 j, .func (.func F) #[] cap] w (TakePost J C ((piecesL xs ls i j).foldl step s) w) := by
  have HT := Lib.hid (take_any J step Ok F cap xs ls i j hlens eg hext hwith (w.heap.size + 1) (w.heap.size + 1 + 1) (w.heap.size + 1 + 1 + 1) (w.heap.size + 1 + 1 + 1 + 1) w.heap.size (w.heap.size + 1 + 1 + 1 + 1 + 1) vL vR xs.length)
  have He := Lib.hid hext
  have HJ := Lib.hid hJ
  have HRu := Lib.hid hRu
  clear hRu
  have HL := Lib.hid hL
  have HR := Lib.hid hR
  have Hlt := Lib.hid hlt
  clear hwith hext hJ eg hL
  obtain ⟨AR, cR, rfl, _, _, hrowR⟩ := hR
  clear hrowR
  obtain ⟨AL, cL, rfl, _⟩ := HL.out
  have hB : ∀ o1 o2 o3 o4 o5 o6, Below w.heap.size w ((((((w.alloc o1).alloc o2).alloc o3).alloc o4).alloc o5).alloc o6) := fun o1 o2 o3 o4 o5 o6 => (by repeat (first | exact Below.refl _ _ | (refine Below.alloc ?_ (by first | omega | (simp; done) | (simp; omega)) _) | refine below_drewN ?_ _ | refine Below.drew ?_))
  have hJ6 : ∀ o1 o2 o3 o4 o5 o6, NoB o1 → NoB o2 → NoB o3 → NoB o4 → NoB o5 → NoB o6 → J (ext C w.heap.size (w.heap.size + 6)) s ((((((w.alloc o1).alloc o2).alloc o3).alloc o4).alloc o5).alloc o6) := fun o1 o2 o3 o4 o5 o6 n1 n2 n3 n4 n5 n6 => by
    have := He.out C s w ((((((w.alloc o1).alloc o2).alloc o3).alloc o4).alloc o5).alloc o6) HJ.out (hB _ _ _ _ _ _) ((((((((NewNoB.same w).alloc n1).alloc n2).alloc n3).alloc n4).alloc n5).alloc n6)) Hlt.out
    simpa using this
  have hK6 : ∀ o1 o2 o3 o4 o5 o6, Keep C w ((((((w.alloc o1).alloc o2).alloc o3).alloc o4).alloc o5).alloc o6) := fun o1 o2 o3 o4 o5 o6 => (Wk.of_below (hB _ _ _ _ _ _) Hlt.out).keep
  by_cases h0 : 0 < xs.length ∧ i < j
  · obtain ⟨h1, h2⟩ := h0
    go_enter Tryz.func151, Tryz.ntmps151
    go_wp2_with fail
    rw [show ((xs.length : Int) - 1) = ((xs.length - 1 : Nat) : Int) by omega]
    refine (HT.out (xs.length - 1) 0 s (ext C w.heap.size (w.heap.size + 6)) _ (by omega) (by omega) (by omega) ?_ ?_ ?_ ?_).mono ?_
    · have := lens_pos' hlens (r := xs.length - 1) (by omega); omega
    · exact hJ6 _ _ _ _ _ _ (NoB.cells (by decide)) (NoB.cells (by decide)) (NoB.cells (by decide)) (NoB.cells (by decide)) (NoB.cells (by decide)) (NoB.cells (by decide))
    · have := HRu.out
      rwa [piecesL, if_pos ⟨h1, h2⟩] at this
    · have hk := hK6
      exact ⟨by simp [go_sem], by simp [go_sem], by simp [go_sem], by simp [go_sem], by simp [go_sem], by simp [go_sem], Or.inr (by omega), Or.inr (by omega), Or.inr (by omega), Or.inr (by omega), Or.inr (by omega), Or.inr (by omega), (HL.out.keep (hk _ _ _ _ _ _)).more fun b h => Or.inl h, (HR.out.keep (hk _ _ _ _ _ _)).more fun b h => Or.inl h, fun b h => by
        simp
        rcases h with h | h
        · have := Hlt.out b h; omega
        · exact h.2⟩
    · rintro e w2 ⟨rfl, C2, g1, g2, g3, g4⟩
      go_wp2_with fail
      go_end0
      refine ⟨rfl, C2, fun b h => g1 _ (Or.inl h), g2, ?_, ?_⟩
      · rw [piecesL, if_pos ⟨h1, h2⟩]; exact g3
      · exact (Wk.of_below (hB _ _ _ _ _ _) Hlt.out).trans (g4.mono fun b h => Or.inl h)
  · have hp : piecesL xs ls i j = [] := by rw [piecesL, if_neg h0]
    have Hp := Lib.hid hp
    have hh : ¬ 0 < xs.length ∨ (0 < xs.length ∧ ¬ i < j) := by omega
    clear hp h0
    rcases hh with h1 | ⟨h1, h2⟩
    all_goals
      go_enter Tryz.func151, Tryz.ntmps151
      go_wp2_with fail
      go_end0
      refine ⟨rfl, ext C w.heap.size (w.heap.size + 6), fun b h => Or.inl h, ?_, ?_, Wk.of_below (hB _ _ _ _ _ _) Hlt.out⟩
      · intro b h
        simp
        rcases h with h | h
        · have := Hlt.out b h; omega
        · exact h.2
      · rw [Hp.out]
        exact hJ6 _ _ _ _ _ _ (NoB.cells (by decide)) (NoB.cells (by decide)) (NoB.cells (by decide)) (NoB.cells (by decide)) (NoB.cells (by decide)) (NoB.cells (by decide))
end
theorem within_yes (n a b : Int) (w : World) (h : inR n a b = true) : Calls Tryz.prog 57 #[.int .i64 n, .int .i64 a, .int .i64 b] w fun e w' => e = .returned (.bool true) ∧ w = w' :=
  (within_any n a b w).mono fun _ _ ⟨he, hw⟩ => ⟨by rw [he, ← h]; rfl, hw⟩
theorem within_no (n a b : Int) (w : World) (h : inR n a b = false) : Calls Tryz.prog 57 #[.int .i64 n, .int .i64 a, .int .i64 b] w fun e w' => e = .returned (.bool false) ∧ w = w' :=
  (within_any n a b w).mono fun _ _ ⟨he, hw⟩ => ⟨by rw [he, ← h]; rfl, hw⟩
theorem step_push_int {W : World} {ops : Array Oper} {o : Oper} {a : Act} {K : Act → World → Prop} {Q : Exit → Act → World → Prop} {E : Prop} (hgd : o.guard = none) (s x : Operand)
    (ho : o.op = .call { callee := .builtin .append, args := #[s, x], argTypes := #[117, 117] }) {y : Int} {base : Nat} {v : Value} {l : List Int}
    (hs : a.eval s = v) {N : Nat} (hx : a.eval x = .slice (some ⟨N, 0, none⟩) 1 1) (hc : W.cell? ⟨N, 0, none⟩ = some (.int .i64 y)) (hown : OwnInts W base v l) (hlen : l.length ≤ 1099511627776) (hbase : base ≤ W.heap.size)
    (h : ∀ v' w', OwnInts w' base v' (l ++ [y]) → W.grownBy w' v.ownBlock → (v'.ownBlock = v.ownBlock ∨ v'.ownBlock = some W.heap.size) → K (a.put o.dst v') w') :
    if Region.wanted o (yielded ops a.tmps) = true then Oper.wp Tryz.prog o a W K Q else E := by
  have hw : Region.wanted o (yielded ops a.tmps) = true := by simp [Region.wanted, hgd]
  rw [if_pos hw]
  obtain ⟨i0, hi0, hz0, hz1, hz2⟩ := info_parts Tryz.infoI
  obtain ⟨v', w', hrun, h2, h3, _, h5⟩ := run_append_own_at (P := Tryz.prog) W base 117 o.type 2 i0 (.int .i64 0) 1 8 Tryz.underlying117 hi0 hz0 hz1 hz2 rfl (by decide) v _ _ hown ⟨N, 0, none⟩ 1 1 [.int .i64 y] rfl
    (fun j u hu => by
      cases j with
      | zero => simp at hu; subst hu; simpa [Addr.add] using hc
      | succ j => simp at hu) (by simp [Value.oneCell']) (by simp only [maxLen]; omega) (by omega) hbase
  unfold Oper.wp execOp
  simp only [ho, resolve, invoke, builtin, Sem.run_bind, Sem.run_pure, Result.andThen_ok, List.map_toArray, List.map_cons, List.map_nil, hs, hx, hrun]
  exact h v' w' (by unfold OwnInts; simpa using h2) h3 h5
def lastI (l : List Int) : Int := l.getD (l.length - 1) 0
theorem last_any (v : Value) (l : List Int) (w : World) (h : Sl IntE w w.heap.size v l) :
    Calls Tryz.prog 93 #[v] w fun e w' => e = .returned (.int .i64 (lastI l)) ∧ w = w' := by
  obtain ⟨A, c, rfl, hc, hm, hrow⟩ := h
  unfold maxLen at hm
  by_cases h0 : l.length = 0
  · have hl : l = [] := List.eq_nil_of_length_eq_zero h0
    subst hl
    go_enter Tryz.func93, Tryz.ntmps93
    go_wp2_with fail
    go_ret
    exact ⟨rfl, rfl⟩
  · obtain ⟨b, o, rfl, hbl, hcell⟩ := hrow.int (k := 0) (by omega)
    have hc0 := hcell (l.length - 1) (by omega)
    have g0 : ((l.length : Int) == 0) = false := by rw [beq_eq_false_iff_ne]; omega
    have hk : ((l.length : Int) - 1).toNat = l.length - 1 := by omega
    have hl : 0 ≤ (l.length : Int) - 1 := by omega
    obtain ⟨x, hx⟩ : ∃ x, l.getD (l.length - 1) 0 = x := ⟨_, rfl⟩
    have Hx := Lib.hid hx
    rw [hx] at hc0
    clear hcell hx
    go_enter Tryz.func93, Tryz.ntmps93
    go_wp2_with fail
    go_ret
    exact ⟨ret_int (by rw [lastI, Hx.out]), rfl⟩
theorem Wk.set {C : Nat → Prop} {w : World} {b o : Nat} {v : Value} (h : ¬ C b) : Wk C w (w.setCell ⟨b, o, none⟩ v).drew :=
  ⟨rfl, rfl, rfl, by show w.heap.size ≤ (w.setCell ⟨b, o, none⟩ v).heap.size; simp, fun k hk => heap_setCell_other w ⟨b, o, none⟩ k v (fun e => h (by have e' : k = b := e; exact e' ▸ hk))⟩
def gramLen (xs : List GRule) : Int := match lens xs with | some ls => lastI ls | none => 0
theorem gramLen_of {xs : List GRule} {ls : List Int} (h : lens xs = some ls) : gramLen xs = lastI ls := by simp [gramLen, h]
theorem lastI_bounds {xs : List GRule} {ls : List Int} (h : lens xs = some ls) : 0 ≤ lastI ls ∧ lastI ls ≤ 1000000000000000 := by
  have hll := lens_length h
  unfold lastI
  by_cases h0 : xs.length = 0
  · have : ls = [] := List.eq_nil_of_length_eq_zero (by omega)
    subst this; simp
  · have := lens_pos' h (r := ls.length - 1) (by omega)
    omega
theorem gramLen_bounds (xs : List GRule) : 0 ≤ gramLen xs ∧ gramLen xs ≤ 1000000000000000 := by
  unfold gramLen
  split
  · rename_i ls h; exact lastI_bounds h
  · omega
set_option maxRecDepth 100000 in
theorem l02Length_any (b o : Nat) (v : Value) (xs : List GRule) (ls : List Int) (w : World) (hl : lens xs = some ls) (hp : w.cell? ⟨b, o, none⟩ = some v) (hbl : b < w.heap.size) (h : Sl RuleE w w.heap.size v xs) (hsm : SmallL xs) (hn : xs.length ≤ 1099511627776) :
    Calls Tryz.prog 45 #[.pointer (some ⟨b, o, none⟩)] w fun e w' => e = .returned (.int .i64 (lastI ls)) ∧ Below w.heap.size w w' := by
  have Hsl := Lib.hid h
  have Hl := Lib.hid hl
  clear h hl
  go_enter Tryz.func45, Tryz.ntmps45
  go_wp2_with fail
  refine (l02Sizes_any _ _ _ _ _ hp hbl Hsl.out hsm hn).mono ?_
  rintro e w1 ⟨hb, (⟨ls', v1, h1, rfl, h2⟩ | ⟨h1, _⟩)⟩
  · have e1 : ls' = ls := by rw [Hl.out] at h1; injection h1 with h1; exact h1.symm
    subst e1
    have HB := Lib.hid hb
    have hsl := h2.sl
    obtain ⟨A, c, rfl, hc, hm, hrow⟩ := hsl
    unfold maxLen at hm
    clear h1 h2 hb
    by_cases h0 : ls'.length = 0
    · have hl : ls' = [] := List.eq_nil_of_length_eq_zero h0
      subst hl
      clear hrow
      go_wp2_with fail
      go_ret
      exact ⟨rfl, HB.out⟩
    · obtain ⟨b, o, rfl, hbl, hcell⟩ := hrow.int (k := 0) (by omega)
      have hc0 := hcell (ls'.length - 1) (by omega)
      have g0 : ((ls'.length : Int) == 0) = false := by rw [beq_eq_false_iff_ne]; omega
      have hk : ((ls'.length : Int) - 1).toNat = ls'.length - 1 := by omega
      have hl : 0 ≤ (ls'.length : Int) - 1 := by omega
      have hwr : IntKind.i64.wrap ((ls'.length : Int) - 1) = (ls'.length : Int) - 1 := IntWalk.i64_in _ (by omega)
      obtain ⟨x, hx⟩ : ∃ x, ls'.getD (ls'.length - 1) 0 = x := ⟨_, rfl⟩
      have Hx := Lib.hid hx
      rw [hx] at hc0
      clear hcell hx hrow
      go_wp2_with fail
      go_ret
      exact ⟨ret_int (by rw [lastI, Hx.out]), HB.out⟩
  · rw [Hl.out] at h1; cases h1
def lenV (xs : List GRule) : Int := if gramOk xs then gramLen xs else 0
def lenC (xs : List GRule) : Int := if gramOk xs then 0 else 1
set_option maxRecDepth 100000 in
theorem LengthOf_any (v : Value) (xs : List GRule) (w : World) (h : Sl RuleE w w.heap.size v xs) (hn : xs.length ≤ 1099511627776) :
    Calls Tryz.prog 38 #[.agg #[v]] w fun e w' => e = .returned (.tuple #[.int .i64 (lenV xs), .int .i64 (lenC xs)]) ∧ Below w.heap.size w w' := by
  have h1 := fun o => (h.below ((Below.refl w.heap.size w).alloc (Nat.le_refl _) o)).le (B' := (w.alloc o).heap.size) (by simp)
  have H1 := Lib.hid h1
  clear h1 h
  go_enter Tryz.func38, Tryz.ntmps38
  go_wp2_with fail
  refine (lengths_any _ _ _ (H1.out _) hn).mono ?_
  rintro e w1 ⟨hb, (⟨ls, v1, h1, rfl, h2⟩ | ⟨h1, rfl⟩)⟩
  · have HL := Lib.hid h2.sl
    have H1' := Lib.hid h1
    have HB := Lib.hid hb
    obtain ⟨A, c, rfl, _⟩ := h2.sl
    clear h1 h2 hb
    by_cases hc : xs.length ≤ 400
    · have hd : decide (xs.length ≤ 400) = true := by simp [hc]
      have hg : gramOk xs = true := by simp [gramOk, H1'.out, hc]
      have Hg := Lib.hid hg
      rw [hd]
      clear hd hc hg
      go_wp2_with fail
      refine (last_any _ ls _ HL.out).mono ?_
      rintro e w2 ⟨rfl, rfl⟩
      go_wp2_with fail
      go_ret2
      exact ⟨by simp [lenV, lenC, Hg.out, gramLen_of H1'.out], ((Below.refl _ _).alloc (Nat.le_refl _) _).trans (HB.out.mono (by simp))⟩
    · have hd : decide (xs.length ≤ 400) = false := by simp [hc]
      have hg : gramOk xs = false := by simp [gramOk, hc]
      have Hg := Lib.hid hg
      rw [hd]
      clear hd hc hg
      go_wp2_with fail
      go_ret2
      exact ⟨by simp [lenV, lenC, Hg.out], ((Below.refl _ _).alloc (Nat.le_refl _) _).trans (HB.out.mono (by simp))⟩
  · have hg : gramOk xs = false := by simp [gramOk, h1]
    have Hg := Lib.hid hg
    have HB := Lib.hid hb
    clear h1 hg hb
    go_wp2_with fail
    go_ret2
    exact ⟨by simp [lenV, lenC, Hg.out], ((Below.refl _ _).alloc (Nat.le_refl _) _).trans (HB.out.mono (by simp))⟩
structure GEdit where
  kind : Int
  i : Int
  j : Int
  k : Int
  part : List GRule
  map : ByteArray
def usesJ (k : Int) : Bool := decide (2 ≤ k)
def usesK (k : Int) : Bool := k == 3 || k == 4 || k == 6
def EditV (w : World) (B : Nat) (v : Value) (e : GEdit) : Prop := ∃ vR, v = .agg #[.int .i64 e.kind, .int .i64 e.i, .int .i64 e.j, .int .i64 e.k, vR, .string e.map] ∧ Sl RuleE w B vR e.part
theorem EditV.below {w w' : World} {B : Nat} {v : Value} {e : GEdit} (h : EditV w B v e) (hb : Below B w w') : EditV w' B v e := by
  obtain ⟨vR, rfl, h1⟩ := h; exact ⟨vR, rfl, h1.below hb⟩
theorem EditV.le {w : World} {B B' : Nat} {v : Value} {e : GEdit} (h : EditV w B v e) (hb : B ≤ B') : EditV w B' v e := by
  obtain ⟨vR, rfl, h1⟩ := h; exact ⟨vR, rfl, h1.le hb⟩
theorem EditV.up {w0 w : World} {v : Value} {e : GEdit} (h : EditV w0 w0.heap.size v e) (hb : Below w0.heap.size w0 w) : EditV w w.heap.size v e := (h.below hb).le hb.size
def numOk (n : Int) (told : Bool) : Bool := if told then inR n 0 1000000000000000 else n == 0
def editOk (e : GEdit) : Bool :=
  inR e.kind 1 7 && inR e.i 0 1000000000000000 && numOk e.j (usesJ e.kind) && numOk e.k (usesK e.kind) && !(usesJ e.kind && decide (e.j < e.i)) &&
    (decide (0 < e.part.length) == (e.kind == 1)) && gramOk e.part && (if e.kind == 7 then e.map.size == 4 && wordOk e.map else e.map.size == 0)
def editFits (e : GEdit) (n : Int) : Bool :=
  if e.kind = 1 then decide (e.i ≤ n) else if e.kind = 3 then decide (e.j ≤ n) && decide (e.k ≤ n) else if e.kind = 4 then decide (e.j ≤ n) && (decide (e.k ≤ e.i) || (decide (e.j ≤ e.k) && decide (e.k ≤ n))) else decide (e.j ≤ n)
def editLen (e : GEdit) (n : Int) : Int :=
  if e.kind = 1 then n + gramLen e.part else if e.kind = 2 then n - (e.j - e.i) else if e.kind = 3 then n + (e.j - e.i) else if e.kind = 6 then n - (e.j - e.i) + (e.j - e.i) * e.k else n
def lessP (e : GEdit) (p : Int) : Int := if p ≤ e.i then p else if p < e.j then e.i else p - (e.j - e.i)
def Box6 (w : World) (b : Nat) (c0 c1 c2 c3 c4 c5 : Value) : Prop := w.cell? ⟨b, 0, none⟩ = some c0 ∧ w.cell? ⟨b, 1, none⟩ = some c1 ∧ w.cell? ⟨b, 2, none⟩ = some c2 ∧ w.cell? ⟨b, 3, none⟩ = some c3 ∧ w.cell? ⟨b, 4, none⟩ = some c4 ∧ w.cell? ⟨b, 5, none⟩ = some c5
theorem Box6.up {w w' : World} {b N : Nat} {c0 c1 c2 c3 c4 c5 : Value} (h : Box6 w b c0 c1 c2 c3 c4 c5) (hb : Below N w w') (hlt : b < N) : Box6 w' b c0 c1 c2 c3 c4 c5 := by
  obtain ⟨h0, h1, h2, h3, h4, h5⟩ := h
  have k : ∀ {o : Nat} {v : Value}, w.cell? ⟨b, o, none⟩ = some v → w'.cell? ⟨b, o, none⟩ = some v := fun {o v} hc => (hb.cell (p := ⟨b, o, none⟩) hlt).trans hc
  exact ⟨k h0, k h1, k h2, k h3, k h4, k h5⟩
theorem Box6.new {w w' : World} {c0 c1 c2 c3 c4 c5 : Value} {t : TypeId} (hb : Below (w.alloc (.cells #[c0, c1, c2, c3, c4, c5] t)).heap.size (w.alloc (.cells #[c0, c1, c2, c3, c4, c5] t)) w') : Box6 w' w.heap.size c0 c1 c2 c3 c4 c5 :=
  Box6.up (w := w.alloc (.cells #[c0, c1, c2, c3, c4, c5] t)) ⟨by simp [go_sem], by simp [go_sem], by simp [go_sem], by simp [go_sem], by simp [go_sem], by simp [go_sem]⟩ hb (by simp)
theorem kind7 {k : Int} (h : inR k 1 7 = true) : k = 1 ∨ k = 2 ∨ k = 3 ∨ k = 4 ∨ k = 5 ∨ k = 6 ∨ k = 7 := by
  have : 1 ≤ k ∧ k ≤ 7 := by simpa [inR] using h
  omega
theorem numOk_get {n : Int} {b : Bool} (h : numOk n b = true) : 0 ≤ n ∧ n ≤ 1000000000000000 := by
  cases b
  · have : n = 0 := by simpa [numOk] using h
    omega
  · simpa [numOk, inR] using h
theorem editOk_get {e : GEdit} (h : editOk e = true) : inR e.kind 1 7 = true ∧ (0 ≤ e.i ∧ e.i ≤ 1000000000000000) ∧ (0 ≤ e.j ∧ e.j ≤ 1000000000000000) ∧ (0 ≤ e.k ∧ e.k ≤ 1000000000000000) ∧ (2 ≤ e.kind → e.i ≤ e.j) ∧ (e.kind = 1 → e.j = 0) ∧ gramOk e.part = true := by
  simp only [editOk, Bool.and_eq_true, Bool.not_eq_true'] at h
  obtain ⟨⟨⟨⟨⟨⟨⟨h1, h2⟩, h3⟩, h4⟩, h5⟩, h6⟩, h7⟩, h8⟩ := h
  refine ⟨h1, by simpa [inR] using h2, numOk_get h3, numOk_get h4, ?_, ?_, h7⟩
  · intro hk
    simp [usesJ] at h5
    have := h5 hk
    omega
  · intro hk
    rw [hk] at h3
    simpa [numOk, usesJ] using h3
theorem cover_mem {xs : List GRule} {ls : List Int} (hl : lens xs = some ls) {i j : Int} : ∀ (f r : Nat) (p : Int), r < f → r < xs.length → ∀ x ∈ coverR xs ls i j f r p, x < xs.length := by
  intro f
  induction f with
  | zero => intro r p hr; omega
  | succ f ih =>
    intro r p hr hx y hy
    rw [coverR] at hy
    have h1 := lens_pos' hl hx
    split at hy
    · simp at hy
    split at hy
    · simp at hy; omega
    rename_i c1 c2
    cases hpair : (getR xs r).pair with
    | false => have := lens_letter hl hx hpair; omega
    | true =>
      obtain ⟨q1, q2, q3, q4, q5⟩ := lens_pair hl hx hpair
      rcases List.mem_append.1 hy with hy | hy
      · exact ih _ _ (by omega) (by omega) y hy
      · exact ih _ _ (by omega) (by omega) y hy
theorem cover_one {xs : List GRule} {ls : List Int} (hl : lens xs = some ls) {i j : Int} : ∀ (f r : Nat) (p : Int), r < f → r < xs.length → (i ≤ p ∨ p + ls.getD r 0 ≤ j) → (coverR xs ls i j f r p).length ≤ r + 1 := by
  intro f
  induction f with
  | zero => intro r p hr; omega
  | succ f ih =>
    intro r p hr hx ho
    rw [coverR]
    have h1 := lens_pos' hl hx
    split
    · simp
    split
    · simp
    rename_i c1 c2
    cases hpair : (getR xs r).pair with
    | false => have := lens_letter hl hx hpair; omega
    | true =>
      obtain ⟨q1, q2, q3, q4, q5⟩ := lens_pair hl hx hpair
      have hL := lens_pos' hl (r := (getR xs r).left.toNat) (by omega)
      have hR := lens_pos' hl (r := (getR xs r).right.toNat) (by omega)
      obtain ⟨g, rfl⟩ : ∃ g, f = g + 1 := ⟨f - 1, by omega⟩
      rw [List.length_append]
      rcases ho with ho | ho
      · by_cases c3 : p + ls.getD (getR xs r).left.toNat 0 ≤ j
        · have e1 : (coverR xs ls i j (g + 1) (getR xs r).left.toNat p).length = 1 := by rw [coverR, if_neg (by omega), if_pos (by omega)]; rfl
          have e2 := ih (getR xs r).right.toNat (p + ls.getD (getR xs r).left.toNat 0) (by omega) (by omega) (.inl (by omega))
          omega
        · have e2 : (coverR xs ls i j (g + 1) (getR xs r).right.toNat (p + ls.getD (getR xs r).left.toNat 0)).length = 0 := by rw [coverR, if_pos (by omega)]; rfl
          have e1 := ih (getR xs r).left.toNat p (by omega) (by omega) (.inl ho)
          omega
      · by_cases c3 : i ≤ p + ls.getD (getR xs r).left.toNat 0
        · have e2 : (coverR xs ls i j (g + 1) (getR xs r).right.toNat (p + ls.getD (getR xs r).left.toNat 0)).length ≤ 1 := by
            rw [coverR]
            split
            · simp
            rw [if_pos (by omega)]; simp
          have e1 := ih (getR xs r).left.toNat p (by omega) (by omega) (.inr (by omega))
          omega
        · have e1 : (coverR xs ls i j (g + 1) (getR xs r).left.toNat p).length = 0 := by rw [coverR, if_pos (by omega)]; rfl
          have e2 := ih (getR xs r).right.toNat (p + ls.getD (getR xs r).left.toNat 0) (by omega) (by omega) (.inr (by omega))
          omega
theorem cover_two {xs : List GRule} {ls : List Int} (hl : lens xs = some ls) {i j : Int} : ∀ (f r : Nat) (p : Int), r < f → r < xs.length → (coverR xs ls i j f r p).length ≤ 2 * (r + 1) := by
  intro f
  induction f with
  | zero => intro r p hr; omega
  | succ f ih =>
    intro r p hr hx
    rw [coverR]
    have h1 := lens_pos' hl hx
    split
    · simp
    split
    · simp; omega
    rename_i c1 c2
    cases hpair : (getR xs r).pair with
    | false => have := lens_letter hl hx hpair; omega
    | true =>
      obtain ⟨q1, q2, q3, q4, q5⟩ := lens_pair hl hx hpair
      have hL := lens_pos' hl (r := (getR xs r).left.toNat) (by omega)
      have hR := lens_pos' hl (r := (getR xs r).right.toNat) (by omega)
      obtain ⟨g, rfl⟩ : ∃ g, f = g + 1 := ⟨f - 1, by omega⟩
      rw [List.length_append]
      by_cases c3 : j ≤ p + ls.getD (getR xs r).left.toNat 0
      · have e2 : (coverR xs ls i j (g + 1) (getR xs r).right.toNat (p + ls.getD (getR xs r).left.toNat 0)).length = 0 := by rw [coverR, if_pos (by omega)]; rfl
        have e1 := ih (getR xs r).left.toNat p (by omega) (by omega)
        omega
      · by_cases c4 : p + ls.getD (getR xs r).left.toNat 0 ≤ i
        · have e1 : (coverR xs ls i j (g + 1) (getR xs r).left.toNat p).length = 0 := by rw [coverR, if_pos (by omega)]; rfl
          have e2 := ih (getR xs r).right.toNat (p + ls.getD (getR xs r).left.toNat 0) (by omega) (by omega)
          omega
        · have e1 := cover_one hl (i := i) (j := j) (g + 1) (getR xs r).left.toNat p (by omega) (by omega) (.inr (by omega))
          have e2 := cover_one hl (i := i) (j := j) (g + 1) (getR xs r).right.toNat (p + ls.getD (getR xs r).left.toNat 0) (by omega) (by omega) (.inl (by omega))
          omega
def joinStep (p : List GRule × Int) (c : Nat) : List GRule × Int := (p.1 ++ [pairR p.2 c], (p.1.length : Int))
def cutG (xs : List GRule) : List Nat → List GRule
  | [] => []
  | [c] => xs.take (c + 1)
  | c :: d :: cs => ((d :: cs).foldl joinStep (xs, (c : Int))).1
def partG (xs : List GRule) (ls : List Int) (i j : Int) : List GRule := trimG (cutG xs (piecesL xs ls i j))
theorem join_ok {m : Nat} : ∀ (cs : List Nat) (p : List GRule × Int), (∀ c ∈ cs, c < m) → m ≤ p.1.length → OkAll p.1 → 0 ≤ p.2 ∧ p.2 < p.1.length → OkAll (cs.foldl joinStep p).1 ∧ (cs.foldl joinStep p).1.length = p.1.length + cs.length
  | [], p, _, _, h, _ => ⟨h, rfl⟩
  | c :: cs, p, hc, hm, h, hp => by
    have hcm := hc c (by simp)
    have := join_ok cs (joinStep p c) (fun d hd => hc d (by simp [hd])) (by simp [joinStep]; omega) (h.snoc (okRule_pair hp ⟨by omega, by omega⟩)) (by simp [joinStep]; omega)
    refine ⟨this.1, ?_⟩
    rw [List.foldl_cons, this.2]
    simp [joinStep]; omega
theorem okAll_take {xs : List GRule} (h : OkAll xs) (n : Nat) : OkAll (xs.take n) := fun k r hk => by
  rw [List.getElem?_take] at hk
  split at hk
  · exact h k r hk
  · cases hk
theorem cutG_ok {xs : List GRule} (h : OkAll xs) (cs : List Nat) (hc : ∀ c ∈ cs, c < xs.length) : OkAll (cutG xs cs) ∧ (cutG xs cs).length ≤ xs.length + cs.length := by
  match cs with
  | [] => exact ⟨fun k r hk => by simp [cutG] at hk, by simp [cutG]⟩
  | [c] => exact ⟨okAll_take h _, by simp [cutG]; omega⟩
  | c :: d :: cs =>
    have := join_ok (d :: cs) (xs, (c : Int)) (fun x hx => hc x (by simp at hx; simp; exact .inr hx)) (Nat.le_refl _) h (by have := hc c (by simp); simp; omega)
    refine ⟨this.1, ?_⟩
    have e : (cutG xs (c :: d :: cs)).length = xs.length + (d :: cs).length := this.2
    rw [e]; simp
theorem pieces_len {xs : List GRule} {ls : List Int} (hl : lens xs = some ls) (i j : Int) : (piecesL xs ls i j).length ≤ 2 * xs.length := by
  unfold piecesL
  split
  · rename_i h
    have := cover_two hl (i := i) (j := j) xs.length (xs.length - 1) 0 (by omega) (by omega)
    omega
  · simp
theorem pieces_mem {xs : List GRule} {ls : List Int} (hl : lens xs = some ls) (i j : Int) : ∀ x ∈ piecesL xs ls i j, x < xs.length := by
  unfold piecesL
  split
  · rename_i h
    exact cover_mem hl xs.length (xs.length - 1) 0 (by omega) (by omega)
  · simp
theorem partG_len {xs : List GRule} {ls : List Int} (hl : lens xs = some ls) (i j : Int) : (partG xs ls i j).length ≤ 3 * xs.length := by
  have h1 := trimG_len (cutG xs (piecesL xs ls i j))
  have h2 := (cutG_ok (okAll_lens hl) _ (pieces_mem hl i j)).2
  have h3 := pieces_len hl i j
  unfold partG; omega
def keyV (r : GRule) : Value := .agg #[.string r.letter, .int .i64 r.left, .int .i64 r.right]
def KeyOk (r : GRule) : Prop := r.letter.size ≤ 1 ∧ (-9223372036854775808 ≤ r.left ∧ r.left ≤ 9223372036854775807) ∧ (-9223372036854775808 ≤ r.right ∧ r.right ≤ 9223372036854775807)
theorem keyV_inj {r s : GRule} (h : keyV r = keyV s) : r = s := by
  cases r; cases s
  simp [keyV] at h
  obtain ⟨h1, h2, h3⟩ := h
  subst h1 h2 h3; rfl
theorem laidOutP : laidOutB Tryz.prog = true := by kernel_rfl
theorem rowRule : (112 : TypeId) < Tryz.prog.types.size := of_decide_eq_true (by kernel_rfl)
theorem keyTypeRule : Tryz.prog.keyTypeAt 2 112 = true := by kernel_rfl
theorem ruleKey : WideMaps.KeyLaw Tryz.prog 112 := deep_law_laid laidOutP (m := 2) (by omega) rowRule keyTypeRule (by rw [Tryz.underlying112])
theorem cellsRule : Tryz.prog.cellsOf 112 = 3 := by kernel_rfl
theorem formedRule (l : ByteArray) (a b : Int) : (Value.agg #[.string l, .int .i64 a, .int .i64 b]).formed Tryz.prog 112 = true := by simp [Value.formed, Tryz.underlying112, cellsRule]
theorem litsRule (D : Nat) (l : ByteArray) (a b : Int) (hl : l.size ≤ 1) (ha : (Lit.int .i64 a).wf = true) (hb : (Lit.int .i64 b).wf = true) :
    Tryz.prog.keyLits (D + 2) 112 [.string l, .int .i64 a, .int .i64 b] = some [.string l.data.toList, .int .i64 a, .int .i64 b] := by
  have hm : l.size ≤ maxLen := Nat.le_trans hl (by decide)
  have c9 : Tryz.prog.cellsOf 9 = 1 := by kernel_rfl
  have c2 : Tryz.prog.cellsOf 2 = 1 := by kernel_rfl
  simp [cellsRule, Tryz.underlying112, c9, c2, Program.keyLits, Tryz.underlying9, Tryz.underlying2, hm, ha, hb, List.mapM_cons]
theorem keyOf_rule {r : GRule} (h : KeyOk r) : ∃ l, keyOf Tryz.prog 112 (keyV r) = some l := by
  obtain ⟨h1, h2, h3⟩ := h
  have hw1 : (Lit.int .i64 r.left).wf = true := WalkArith.wf_i64 h2
  have hw2 : (Lit.int .i64 r.right).wf = true := WalkArith.wf_i64 h3
  obtain ⟨D, hD⟩ : ∃ D, Tryz.prog.types.size + 1 = D + 2 := ⟨Tryz.prog.types.size - 1, by have h9 : 1 < Tryz.prog.types.size := Nat.lt_of_le_of_lt (by decide) rowRule; omega⟩
  have hk : Tryz.prog.keyType 112 = true := by kernel_rfl
  have hlits := litsRule D r.letter r.left r.right h1 hw1 hw2
  rw [← hD] at hlits
  refine ⟨.string (keyBytes [.string r.letter.data.toList, .int .i64 r.left, .int .i64 r.right]), ?_⟩
  unfold keyOf keyV
  rw [Tryz.underlying112]
  have hc : (Value.agg #[.string r.letter, .int .i64 r.left, .int .i64 r.right]).cells.toList = [.string r.letter, .int .i64 r.left, .int .i64 r.right] := rfl
  show (if (Tryz.prog.keyType 112 && (Value.agg #[.string r.letter, .int .i64 r.left, .int .i64 r.right]).formed Tryz.prog 112) = true then
    (Tryz.prog.keyLits (Tryz.prog.types.size + 1) 112 (Value.agg #[.string r.letter, .int .i64 r.left, .int .i64 r.right]).cells.toList).map fun ls => Lit.string (keyBytes ls) else none) = _
  rw [hk, formedRule, hc, if_pos (show (true && true) = true from rfl), hlits]
  rfl
def RMap (w : World) (b : Nat) (ks : List GRule) : Prop :=
  ∃ es clock, w.heap[b]? = some (.map es clock) ∧ (∀ e ∈ es.toList, ∃ r, KeyOk r ∧ e.key = keyV r ∧ r ∈ ks ∧ e.val = .int .i64 (ks.idxOf r : Nat)) ∧ ∀ r ∈ ks, ∃ e ∈ es.toList, e.key = keyV r
section
variable {w w' : World} {b : Nat} {ks : List GRule} {r : GRule}
theorem RMap.made (w : World) : RMap (w.alloc (.map #[] 0)) w.heap.size [] := ⟨#[], 0, (MapKept.heap_alloc w _).1, by simp, by simp⟩
theorem RMap.lt (h : RMap w b ks) : b < w.heap.size := by
  obtain ⟨es, clock, hb, _⟩ := h
  exact (Array.getElem?_eq_some_iff.1 hb).1
theorem RMap.of_block (h : RMap w b ks) (hb : w'.heap[b]? = w.heap[b]?) : RMap w' b ks := by
  obtain ⟨es, clock, h0, h1, h2⟩ := h
  exact ⟨es, clock, hb.trans h0, h1, h2⟩
theorem RMap.kept {row : Option Nat} (h : RMap w b ks) (hg : w.grownBy w' row) (hne : some b ≠ row) : RMap w' b ks := h.of_block (hg.block b h.lt hne)
theorem RMap.alloc (h : RMap w b ks) (o : Obj) : RMap (w.alloc o) b ks := h.kept (World.grownBy_alloc w o none) (by simp)
theorem RMap.drew (h : RMap w b ks) : RMap w.drew b ks := h
theorem RMap.below {N : Nat} (h : RMap w b ks) (hb : Below N w w') (hlt : b < N) : RMap w' b ks := h.of_block (hb.block b hlt)
theorem RMap.same (h : RMap w b ks) (hr : r ∈ ks) : RMap w b (ks ++ [r]) := by
  obtain ⟨es, clock, h0, h1, h2⟩ := h
  refine ⟨es, clock, h0, fun e he => ?_, fun s hs => ?_⟩
  · obtain ⟨s, a1, a2, a3, a4⟩ := h1 e he
    exact ⟨s, a1, a2, by simp [a3], by rw [List.idxOf_append, if_pos a3]; exact a4⟩
  · rcases List.mem_append.1 hs with hs | hs
    · exact h2 s hs
    · rw [List.mem_singleton] at hs; subst hs; exact h2 s hr
theorem RMap.find (h : RMap w b ks) (hk : KeyOk r) : ∃ es clock, w.heap[b]? = some (.map es clock) ∧ (∀ e ∈ es.toList, ∃ r, KeyOk r ∧ e.key = keyV r ∧ r ∈ ks ∧ e.val = .int .i64 (ks.idxOf r : Nat)) ∧
    ((r ∉ ks ∧ (Instr.findKey 112 (keyV r) es.toList).run Tryz.prog w = .ok none w) ∨ (r ∈ ks ∧ ∃ j, (Instr.findKey 112 (keyV r) es.toList).run Tryz.prog w = .ok (some (j, .int .i64 (ks.idxOf r : Nat))) w)) := by
  obtain ⟨es, clock, h0, h1, h2⟩ := h
  obtain ⟨l, hl⟩ := keyOf_rule hk
  refine ⟨es, clock, h0, h1, ?_⟩
  rcases ruleKey.find w hl es.toList (fun e he => by
    obtain ⟨s, a1, a2, _⟩ := h1 e he
    rw [a2]; exact keyOf_rule a1) with ⟨f1, f2⟩ | ⟨j, e, f1, f2, f3⟩
  · refine .inl ⟨fun hr => ?_, f1⟩
    obtain ⟨e, he, hek⟩ := h2 r hr
    exact f2 e he hek
  · obtain ⟨s, a1, a2, a3, a4⟩ := h1 e (List.mem_of_getElem? f2)
    have : s = r := keyV_inj (a2.symm.trans f3)
    subst this
    exact .inr ⟨a3, j, by rw [← a4]; exact f1⟩
theorem RMap.yes (h : RMap w b ks) (hk : KeyOk r) (hr : r ∈ ks) (c : Bool) :
    (Instr.lookup 174 (.map (some b)) (keyV r) c).run Tryz.prog w = .ok (if c then .tuple #[.int .i64 (ks.idxOf r : Nat), .bool true] else .int .i64 (ks.idxOf r : Nat)) w := by
  obtain ⟨es, clock, h0, h1, h2⟩ := h.find hk
  obtain ⟨l, hl⟩ := keyOf_rule hk
  rcases h2 with ⟨hn, _⟩ | ⟨_, j, hj⟩
  · exact absurd hr hn
  · simp [Instr.lookup, run_underlying Tryz.underlying174, MapKept.run_getObj_map h0, ruleKey.check w _ hl, hj, Result.andThen]
theorem RMap.no (h : RMap w b ks) (hk : KeyOk r) (hr : r ∉ ks) (c : Bool) :
    (Instr.lookup 174 (.map (some b)) (keyV r) c).run Tryz.prog w = .ok (if c then .tuple #[.int .i64 0, .bool false] else .int .i64 0) w := by
  obtain ⟨es, clock, h0, h1, h2⟩ := h.find hk
  obtain ⟨l, hl⟩ := keyOf_rule hk
  have hz : (zeroValue 2).run Tryz.prog w = .ok (.int .i64 0) w := by kernel_rfl
  rcases h2 with ⟨_, hj⟩ | ⟨hy, _⟩
  · simp [Instr.lookup, run_underlying Tryz.underlying174, MapKept.run_getObj_map h0, ruleKey.check w _ hl, hj, hz, Result.andThen]
  · exact absurd hy hr
open Go.ChangeMaps in
theorem RMap.put (h : RMap w b ks) (hk : KeyOk r) (hr : r ∉ ks) :
    ∃ w', (Instr.mapUpdate 174 (.map (some b)) (keyV r) (.int .i64 (ks.length : Nat))).run Tryz.prog w = .ok () w' ∧ RMap w' b (ks ++ [r]) ∧ w.grownBy w' (some b) := by
  have h' := h
  obtain ⟨es0, clock0, g0, g1, g2⟩ := h'
  obtain ⟨es, clock, h0, h1, h2⟩ := h.find hk
  obtain ⟨l, hl⟩ := keyOf_rule hk
  have he : es0 = es ∧ clock0 = clock := by
    rw [g0] at h0
    have := Option.some.inj h0
    exact ⟨by injection this, by injection this⟩
  obtain ⟨rfl, rfl⟩ := he
  rcases h2 with ⟨_, hj⟩ | ⟨hy, _⟩
  · refine ⟨setBlock w b (.map (es0.push ⟨keyV r, .int .i64 (ks.length : Nat), clock0⟩) (clock0 + 1)), ?_, ⟨_, _, heap_setBlock_same g0 _, ?_, ?_⟩, ⟨rfl, rfl, rfl, by simp [setBlock], fun i _ hi => heap_setBlock_other g0 _ (fun e => hi (by rw [e]))⟩⟩
    · simp [Instr.mapUpdate, run_underlying Tryz.underlying174, MapKept.run_getObj_map g0, ruleKey.check w false hl, hj, MapKept.run_setObj_map _ g0, Result.andThen, setBlock]
    · intro e he
      simp only [Array.toList_push, List.mem_append, List.mem_singleton] at he
      rcases he with he | rfl
      · obtain ⟨s, a1, a2, a3, a4⟩ := g1 e he
        exact ⟨s, a1, a2, by simp [a3], by rw [List.idxOf_append, if_pos a3]; exact a4⟩
      · exact ⟨r, hk, rfl, by simp, by rw [List.idxOf_append, if_neg hr]; simp⟩
    · intro s hs
      simp only [Array.toList_push, List.mem_append, List.mem_singleton]
      rcases List.mem_append.1 hs with hs | hs
      · obtain ⟨e, he, hek⟩ := g2 s hs
        exact ⟨e, .inl he, hek⟩
      · rw [List.mem_singleton] at hs; subst hs; exact ⟨_, .inr rfl, rfl⟩
  · exact absurd hy hr
end
def limOut (xs : List GRule) : List GRule := if gramOk xs then xs else []
def limCode (xs : List GRule) : Int := if gramOk xs then 0 else 3
theorem lens_okRule {xs : List GRule} {ls : List Int} (h : lens xs = some ls) : ∀ (k : Nat) r, xs[k]? = some r → okRule k r = true := by
  intro k r hr
  rcases hk : lens (xs.take k) with _ | out
  · have h2 : lens xs = (xs.drop k).foldl lensStep (lens (xs.take k)) := by unfold lens; rw [← List.foldl_append, List.take_append_drop]
    rw [h2, hk, lens_none] at h; cases h
  · by_cases hok : okRule k r = true
    · exact hok
    · have hlen := lens_length hk
      rw [List.length_take, Nat.min_eq_left (Nat.le_of_lt (List.getElem?_eq_some_iff.1 hr).1)] at hlen
      have hb := lens_bad hk hr (lensStep_none (by rw [hlen]; simpa using hok))
      rw [hb] at h; cases h
theorem gram_lens {xs : List GRule} (h : gramOk xs = true) : xs.length ≤ 400 ∧ ∃ ls, lens xs = some ls := by
  simp only [gramOk, Bool.and_eq_true, decide_eq_true_eq] at h
  exact ⟨h.1, Option.isSome_iff_exists.1 h.2⟩
theorem gram_smallP {xs : List GRule} (h : gramOk xs = true) : SmallP xs := by
  obtain ⟨hl, ls, hls⟩ := gram_lens h
  intro r hr hp
  obtain ⟨k, hk, he⟩ := List.getElem_of_mem hr
  have hok := lens_okRule hls k r (by rw [List.getElem?_eq_getElem hk, he])
  simp [okRule, hp] at hok
  omega
theorem joinG_len {xs ys : List GRule} (h : xs.length ≤ 400) (h' : ys.length ≤ 400) : (joinG xs ys).length ≤ 801 := by
  unfold joinG
  split
  · omega
  · split
    · omega
    · simp; omega
def LimPost (base : Nat) (xs : List GRule) (w : World) (e : Ending) (w' : World) : Prop :=
  Below w.heap.size w w' ∧ ∃ v', OwnRules w' base v' (limOut xs) ∧ e = .returned (.tuple #[.agg #[v'], .int .i64 (limCode xs)])
theorem orLimit_any (base : Nat) (v : Value) (xs : List GRule) (w : World) (h : OwnRules w base v xs) (hn : xs.length ≤ 1099511627776) :
    Calls Tryz.prog 115 #[.agg #[v]] w (LimPost base xs w) := by
  have h1 := fun o o' => (h.sl.below (((Below.refl w.heap.size w).alloc (Nat.le_refl _) o).alloc (by simp) o')).le (B' := ((w.alloc o).alloc o').heap.size) (by simp; omega)
  have hv : v.ownBlock ≠ some (w.heap.size + 1) := fun e => by have := (World.ownsRow.lt h _ e).2; omega
  have H1 := Lib.hid h1
  have H := Lib.hid h
  have Hv := Lib.hid hv
  clear h1 hv
  obtain ⟨A, c, rfl, _⟩ := own_nil h
  clear h
  go_enter Tryz.func115, Tryz.ntmps115
  go_wp2_with fail
  refine (ValidGrammar_any _ _ _ (H1.out _ _) hn).mono ?_
  rintro e w1 ⟨rfl, hb1⟩
  obtain ⟨hc1, hf1⟩ := bcell hb1
  have hz1 : w.heap.size + 1 < w1.heap.size := by have := hb1.size; simp at this; omega
  have hc2 : w1.cell? ⟨w.heap.size + 1, 0, none⟩ = some (.slice none 0 0) := by rw [hc1 _ _ (by simp)]; simp [go_sem]
  have hf2 : w1.frozen? ⟨w.heap.size + 1, 0, none⟩ = false := by rw [hf1 _ _ (by simp)]; simp [go_sem]
  have hc3 : w1.cell? ⟨w.heap.size, 0, none⟩ = some (.slice A xs.length c) := by rw [hc1 _ _ (by simp; omega)]; simp [go_sem]
  have Hb1 := Lib.hid (((Below.refl w.heap.size w).alloc (Nat.le_refl _) (Obj.cells #[Value.slice A xs.length c] 26)).alloc (by simp) (Obj.cells #[Value.slice none 0 0] 26) |>.trans (hb1.mono (by simp; omega)))
  clear hc1 hf1 hb1
  by_cases hok : gramOk xs = true
  · have hok2 : (!gramOk xs) = false := by simp [hok]
    have Hok := Lib.hid hok
    clear hok
    go_wp2
    refine bodyPost_ret (v := .tuple #[.agg #[.slice A xs.length c], .int .i64 0]) (by simp [results, Tryz.results115, go_sem, hc2]) rfl ⟨?_, _, ?_, by rw [limCode, if_pos Hok.out]⟩
    · exact Hb1.out.setCell (by show w.heap.size ≤ w.heap.size + 1; omega) _
    · rw [limOut, if_pos Hok.out]
      refine own_keep (OwnRules.below H.out Hb1.out) fun g hg => Below.heap_setCell _ _ _ _ (fun e => Hv.out ?_)
      rw [hg, e]
  · have hok2 : (!gramOk xs) = true := by simp [hok]
    have Hok := Lib.hid hok
    clear hok
    go_wp2
    refine bodyPost_ret (v := .tuple #[.agg #[.slice none 0 0], .int .i64 3]) (by simp [results, Tryz.results115, go_sem, hc2]) rfl ⟨?_, _, ?_, by rw [limCode, if_neg Hok.out]⟩
    · exact Hb1.out.setCell (by show w.heap.size ≤ w.heap.size + 1; omega) _
    · rw [limOut, if_neg Hok.out]; exact World.ownsRow_nil _ _ _ _
theorem step_push_rule {W : World} {ops : Array Oper} {o : Oper} {a : Act} {K : Act → World → Prop} {Q : Exit → Act → World → Prop} {E : Prop} (hgd : o.guard = none) (s x : Operand)
    (ho : o.op = .call { callee := .builtin .append, args := #[s, x], argTypes := #[24, 24] }) {t : ByteArray} {p q : Int} {base : Nat} {v : Value} {l : List GRule}
    (hs : a.eval s = v) {N : Nat} (hx : a.eval x = .slice (some ⟨N, 0, none⟩) 1 1) (hN : N = W.heap.size) (hown : OwnRules W base v l) (hlen : l.length ≤ 1099511627775) (hbase : base ≤ W.heap.size)
    (h : ∀ v' w', OwnRules w' base v' (l ++ [⟨t, p, q⟩]) → (W.alloc (.cells #[.string t, .int .i64 p, .int .i64 q] 112)).grownBy w' v.ownBlock → Below base (W.alloc (.cells #[.string t, .int .i64 p, .int .i64 q] 112)) w' → K (a.put o.dst v') w') :
    if Region.wanted o (yielded ops a.tmps) = true then Oper.wp Tryz.prog o a (W.alloc (.cells #[.string t, .int .i64 p, .int .i64 q] 112)) K Q else E := by
  subst hN
  refine step_append_rules (ys := [⟨t, p, q⟩]) (S := fun b => b = W.heap.size) hgd s x ho hs hx (hown.alloc _) ⟨_, 1, rfl, Nat.le_refl _, by simp [maxLen], fun _ => ⟨W.heap.size, 0, rfl, rfl, fun k r hk => ⟨r.cells, rfl, fun j u hu => ?_⟩⟩⟩ (by simp; omega) (by simp; omega) h
  have hk0 : k = 0 := by
    have := (List.getElem?_eq_some_iff.1 hk).1
    simp at this; exact this
  subst hk0
  simp at hk
  subst hk
  have hc : (W.alloc (.cells #[.string t, .int .i64 p, .int .i64 q] 112)).cell? ⟨W.heap.size, j, none⟩ = (#[Value.string t, .int .i64 p, .int .i64 q] : Array Value)[j]? := cell_of_row _ _ _ _ 112 (0, 0) (heap_alloc_new W _)
  simp only [Nat.zero_mul, Nat.zero_add]
  rw [hc]
  simpa [GRule.cells] using hu
theorem Boxed.mk' {w : World} {B : Nat} {t : TypeId} {v : Value} (h : w.heap[B]? = some (.cells #[v] t (0, 0))) : Boxed w.drew B t v := h
theorem Boxed.up {w w' : World} {B N : Nat} {t : TypeId} {v : Value} (h : Boxed w B t v) (hb : Below N w w') (hlt : B < N) : Boxed w' B t v := (hb.block B hlt).trans h
theorem Boxed.grown {w w' : World} {B base e s n : Nat} {t : TypeId} {v : Value} {xs : List Value} {o : Obj} (h : Boxed w B t v) (hte : t ≠ e) (own : w.ownsRow base e s v n xs) (hg : (w.alloc o).grownBy w' v.ownBlock) : Boxed w' B t v := (h.alloc o).kept hg (h.not_row hte own)
end Go.Proofs.YtdacndamehiglaaGreatDoor
