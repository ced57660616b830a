import Derived.Test.YtfapnipmgmpgaaaM2
import Derived.Laws.EntriesVeiled
import Derived.Deep.RegionLaw
import Derived.RangeFuncBox
import Derived.Shelf.Strconv.Itoa0
import Derived.Shelf.Strconv.Itoa1
import Derived.Shelf.LaysM
import Derived.Shelf.Strconv.Itoa2
import Derived.Shelf.Strconv.Itoa3
import Derived.Shelf.Strconv.Itoa4
import Derived.Test.YtfapnipmgmpgaaaProg
import Derived.Test.YtfapnipmgmpgaaaM1
import Derived.Lib.LaidTab
import Derived.WalkSmall
import Derived.Lib.OthersKept
import Derived.Deep.CutRange
import Derived.Deep.DeepCutAuto
namespace Go.Proofs.Ytfapnipmgmpgaaa
open Go.RowKit
section
variable {σ : Type}

set_option maxRecDepth 100000 in
set_option maxHeartbeats 1000000 in
theorem pieces_any (J : (Nat → Prop) → σ → World → Prop) (step : σ → Nat → σ) (Ok : σ → Nat → Prop) (F : FuncId) (cap : Array Value) (xs : List GRule) (ls : List Int) (i j : Int) (hlens : lens xs = some ls) (hxs : xs.length ≤ 1099511627776)
    (eg : ∀ args w, (callFunc F args).run Try.prog w = .ok (.enter F args) w)
    (hext : ∀ C s w w', J C s w → Below w.heap.size w w' → NewNoB w.heap.size w' → (∀ b, C b → b < w.heap.size) → J (ext C w.heap.size w'.heap.size) s w')
    (hwith : ∀ C s (r : Nat) (w : World), J C s w → Ok s r → r < xs.length → (∀ b, C b → b < w.heap.size) → Calls Try.prog F (#[.int .i64 r] ++ cap) w (TakePost J C (step s r) w))
    (vL vR : Value) (s : σ) (C : Nat → Prop) (w : World) (hJ : J C s w) (hRu : Runs step Ok s (piecesL xs ls i j)) (hlt : ∀ b, C b → b < w.heap.size) (hL : SlS IntE w C vL ls) (hR : SlS RuleE w C vR xs) :
    Calls Try.prog 138 #[.agg #[vR], vL, .int .i64 i, .int .i64 j, .func (.func F) #[] cap] w (TakePost J C ((piecesL xs ls i j).foldl step s) w) := by
  have HT := Lib.hid (take_any J step Ok F cap xs ls i j hlens eg hext hwith (w.heap.size + 1) (w.heap.size + 1 + 1) (w.heap.size + 1 + 1 + 1) (w.heap.size + 1 + 1 + 1 + 1) w.heap.size (w.heap.size + 1 + 1 + 1 + 1 + 1) vL vR xs.length)
  have He := Lib.hid hext
  have HJ := Lib.hid hJ
  have HRu := Lib.hid hRu
  clear hRu
  have HL := Lib.hid hL
  have HR := Lib.hid hR
  have Hlt := Lib.hid hlt
  clear hwith hext hJ eg hL
  obtain ⟨AR, cR, rfl, _, _, hrowR⟩ := hR
  clear hrowR
  obtain ⟨AL, cL, rfl, _⟩ := HL.out
  have hB : ∀ o1 o2 o3 o4 o5 o6, Below w.heap.size w ((((((w.alloc o1).alloc o2).alloc o3).alloc o4).alloc o5).alloc o6) := fun o1 o2 o3 o4 o5 o6 => (by repeat (first | exact Below.refl _ _ | (refine Below.alloc ?_ (by first | omega | (simp; done) | (simp; omega)) _) | refine below_drewN ?_ _ | refine Below.drew ?_))
  have hJ6 : ∀ o1 o2 o3 o4 o5 o6, NoB o1 → NoB o2 → NoB o3 → NoB o4 → NoB o5 → NoB o6 → J (ext C w.heap.size (w.heap.size + 6)) s ((((((w.alloc o1).alloc o2).alloc o3).alloc o4).alloc o5).alloc o6) := fun o1 o2 o3 o4 o5 o6 n1 n2 n3 n4 n5 n6 => by
    have := He.out C s w ((((((w.alloc o1).alloc o2).alloc o3).alloc o4).alloc o5).alloc o6) HJ.out (hB _ _ _ _ _ _) ((((((((NewNoB.same w).alloc n1).alloc n2).alloc n3).alloc n4).alloc n5).alloc n6)) Hlt.out
    simpa using this
  have hK6 : ∀ o1 o2 o3 o4 o5 o6, Keep C w ((((((w.alloc o1).alloc o2).alloc o3).alloc o4).alloc o5).alloc o6) := fun o1 o2 o3 o4 o5 o6 => (Wk.of_below (hB _ _ _ _ _ _) Hlt.out).keep
  by_cases h0 : 0 < xs.length ∧ i < j
  · obtain ⟨h1, h2⟩ := h0
    go_enter Try.func138, Try.ntmps138
    go_wp2_with fail
    rw [show ((xs.length : Int) - 1) = ((xs.length - 1 : Nat) : Int) by omega]
    refine (HT.out (xs.length - 1) 0 s (ext C w.heap.size (w.heap.size + 6)) _ (by omega) (by omega) (by omega) ?_ ?_ ?_ ?_).mono ?_
    · have := lens_pos' hlens (r := xs.length - 1) (by omega); omega
    · exact hJ6 _ _ _ _ _ _ (NoB.cells (by decide)) (NoB.cells (by decide)) (NoB.cells (by decide)) (NoB.cells (by decide)) (NoB.cells (by decide)) (NoB.cells (by decide))
    · have := HRu.out
      rwa [piecesL, if_pos ⟨h1, h2⟩] at this
    · have hk := hK6
      exact ⟨by simp [go_sem], by simp [go_sem], by simp [go_sem], by simp [go_sem], by simp [go_sem], by simp [go_sem], Or.inr (by omega), Or.inr (by omega), Or.inr (by omega), Or.inr (by omega), Or.inr (by omega), Or.inr (by omega), (HL.out.keep (hk _ _ _ _ _ _)).more fun b h => Or.inl h, (HR.out.keep (hk _ _ _ _ _ _)).more fun b h => Or.inl h, fun b h => by
        simp
        rcases h with h | h
        · have := Hlt.out b h; omega
        · exact h.2⟩
    · rintro e w2 ⟨rfl, C2, g1, g2, g3, g4⟩
      go_wp2_with fail
      go_end0
      refine ⟨rfl, C2, fun b h => g1 _ (Or.inl h), g2, ?_, ?_⟩
      · rw [piecesL, if_pos ⟨h1, h2⟩]; exact g3
      · exact (Wk.of_below (hB _ _ _ _ _ _) Hlt.out).trans (g4.mono fun b h => Or.inl h)
  · have hp : piecesL xs ls i j = [] := by rw [piecesL, if_neg h0]
    have Hp := Lib.hid hp
    have hh : ¬ 0 < xs.length ∨ (0 < xs.length ∧ ¬ i < j) := by omega
    clear hp h0
    rcases hh with h1 | ⟨h1, h2⟩
    all_goals
      go_enter Try.func138, Try.ntmps138
      go_wp2_with fail
      go_end0
      refine ⟨rfl, ext C w.heap.size (w.heap.size + 6), fun b h => Or.inl h, ?_, ?_, Wk.of_below (hB _ _ _ _ _ _) Hlt.out⟩
      · intro b h
        simp
        rcases h with h | h
        · have := Hlt.out b h; omega
        · exact h.2
      · rw [Hp.out]
        exact hJ6 _ _ _ _ _ _ (NoB.cells (by decide)) (NoB.cells (by decide)) (NoB.cells (by decide)) (NoB.cells (by decide)) (NoB.cells (by decide)) (NoB.cells (by decide))
end
end Go.Proofs.Ytfapnipmgmpgaaa

namespace Go.Proofs.Ytfapnipmgmpgaaa
open Go.RowKit

end Go.Proofs.Ytfapnipmgmpgaaa

namespace Go.Proofs.Ytfapnipmgmpgaaa
open Go.RowKit

/-- The value v reads as the automaton a, below block B. -/
def AutoV (w : World) (B : Nat) (v : Value) (a : GAuto) : Prop := ∃ vF vN, v = .agg #[.int .i64 a.states, .int .i64 a.start, vF, vN] ∧ Sl IntE w B vF a.finals ∧ Sl (SliceE IntE) w B vN a.next
theorem AutoV.below {w w' : World} {B : Nat} {v : Value} {a : GAuto} (h : AutoV w B v a) (hb : Below B w w') : AutoV w' B v a := by
  obtain ⟨vF, vN, rfl, h1, h2⟩ := h
  exact ⟨vF, vN, rfl, h1.below hb, h2.below hb⟩
theorem AutoV.le {w : World} {B B' : Nat} {v : Value} {a : GAuto} (h : AutoV w B v a) (hb : B ≤ B') : AutoV w B' v a := by
  obtain ⟨vF, vN, rfl, h1, h2⟩ := h
  exact ⟨vF, vN, rfl, h1.le hb, h2.le hb⟩
theorem AutoV.up {w0 w : World} {v : Value} {a : GAuto} (h : AutoV w0 w0.heap.size v a) (hb : Below w0.heap.size w0 w) : AutoV w w.heap.size v a := (h.below hb).le hb.size

end Go.Proofs.Ytfapnipmgmpgaaa

namespace Go.Proofs.Ytfapnipmgmpgaaa
open Go.RowKit

end Go.Proofs.Ytfapnipmgmpgaaa

namespace Go.Proofs.Ytfapnipmgmpgaaa
open Go.RowKit

end Go.Proofs.Ytfapnipmgmpgaaa

namespace Go.Proofs.Ytfapnipmgmpgaaa
open Go.RowKit

end Go.Proofs.Ytfapnipmgmpgaaa

namespace Go.Proofs.Ytfapnipmgmpgaaa
open Go.RowKit

/-- Four cells of a block. -/
def Box4 (w : World) (b : Nat) (c0 c1 c2 c3 : Value) : Prop := w.cell? ⟨b, 0, none⟩ = some c0 ∧ w.cell? ⟨b, 1, none⟩ = some c1 ∧ w.cell? ⟨b, 2, none⟩ = some c2 ∧ w.cell? ⟨b, 3, none⟩ = some c3
theorem Box4.up {w w' : World} {b N : Nat} {c0 c1 c2 c3 : Value} (h : Box4 w b c0 c1 c2 c3) (hb : Below N w w') (hlt : b < N) : Box4 w' b c0 c1 c2 c3 :=
  ⟨(hb.cell (p := ⟨b, 0, none⟩) hlt).trans h.1, (hb.cell (p := ⟨b, 1, none⟩) hlt).trans h.2.1, (hb.cell (p := ⟨b, 2, none⟩) hlt).trans h.2.2.1, (hb.cell (p := ⟨b, 3, none⟩) hlt).trans h.2.2.2⟩
theorem Box4.new {w w' : World} {c0 c1 c2 c3 : Value} {t : TypeId} (hb : Below (w.alloc (.cells #[c0, c1, c2, c3] t)).heap.size (w.alloc (.cells #[c0, c1, c2, c3] t)) w') : Box4 w' w.heap.size c0 c1 c2 c3 :=
  Box4.up (w := w.alloc (.cells #[c0, c1, c2, c3] t)) ⟨by simp [go_sem], by simp [go_sem], by simp [go_sem], by simp [go_sem]⟩ hb (by simp)
end Go.Proofs.Ytfapnipmgmpgaaa

namespace Go.Proofs.Ytfapnipmgmpgaaa
open Go.RowKit

/-- 'append(s, x)' of one number in a region that draws its order. -/
theorem step_push_int {W : World} {ops : Array Oper} {o : Oper} {a : Act} {K : Act → World → Prop} {Q : Exit → Act → World → Prop} {E : Prop} (hgd : o.guard = none) (s x : Operand)
    (ho : o.op = .call { callee := .builtin .append, args := #[s, x], argTypes := #[65, 65] }) {y : Int} {base : Nat} {v : Value} {l : List Int}
    (hs : a.eval s = v) {N : Nat} (hx : a.eval x = .slice (some ⟨N, 0, none⟩) 1 1) (hc : W.cell? ⟨N, 0, none⟩ = some (.int .i64 y)) (hown : OwnInts W base v l) (hlen : l.length ≤ 1099511627776) (hbase : base ≤ W.heap.size)
    (h : ∀ v' w', OwnInts w' base v' (l ++ [y]) → W.grownBy w' v.ownBlock → (v'.ownBlock = v.ownBlock ∨ v'.ownBlock = some W.heap.size) → K (a.put o.dst v') w') :
    if Region.wanted o (yielded ops a.tmps) = true then Oper.wp Try.prog o a W K Q else E := by
  have hw : Region.wanted o (yielded ops a.tmps) = true := by simp [Region.wanted, hgd]
  rw [if_pos hw]
  obtain ⟨i0, hi0, hz0, hz1, hz2⟩ := info_parts Try.infoI
  obtain ⟨v', w', hrun, h2, h3, _, h5⟩ := run_append_own_at (P := Try.prog) W base 65 o.type 2 i0 (.int .i64 0) 1 8 Try.underlying65 hi0 hz0 hz1 hz2 rfl (by decide) v _ _ hown ⟨N, 0, none⟩ 1 1 [.int .i64 y] rfl
    (fun j u hu => by
      cases j with
      | zero => simp at hu; subst hu; simpa [Addr.add] using hc
      | succ j => simp at hu) (by simp [Value.oneCell']) (by simp only [maxLen]; omega) (by omega) hbase
  unfold Oper.wp execOp
  simp only [ho, resolve, invoke, builtin, Sem.run_bind, Sem.run_pure, Result.andThen_ok, List.map_toArray, List.map_cons, List.map_nil, hs, hx, hrun]
  exact h v' w' (by unfold OwnInts; simpa using h2) h3 h5

/-! the plain maps -/
def mapCell (next out : List (List Int)) (r : GRule) (s : Nat) : Int :=
  if r.pair then (out.getD r.right.toNat []).getD ((out.getD r.left.toNat []).getD s 0).toNat 0 else (next.getD s []).getD ((r.letter.data.getD 0 0).toNat - 97) 0
def mapRow (next out : List (List Int)) (r : GRule) : List Int := (List.range next.length).map (mapCell next out r)
def mapsOf (next : List (List Int)) (xs : List GRule) : List (List Int) := xs.foldl (fun out r => out ++ [mapRow next out r]) []
/-- All rows are rows of states. -/
def RowsOk (n : Nat) (l : List (List Int)) : Prop := ∀ t, t < l.length → (l.getD t []).length = n ∧ ∀ d, d < n → 0 ≤ (l.getD t []).getD d 0 ∧ (l.getD t []).getD d 0 < n
theorem RowsOk.snoc {n : Nat} {l : List (List Int)} {row : List Int} (h : RowsOk n l) (h1 : row.length = n) (h2 : ∀ d, d < n → 0 ≤ row.getD d 0 ∧ row.getD d 0 < n) : RowsOk n (l ++ [row]) := by
  intro t ht
  rcases Nat.lt_or_ge t l.length with h3 | h3
  · have e : (l ++ [row]).getD t [] = l.getD t [] := by rw [List.getD_eq_getElem?_getD, List.getElem?_append_left h3, List.getD_eq_getElem?_getD]
    rw [e]; exact h t h3
  · have ht' : t = l.length := by simp at ht; omega
    subst ht'
    have e : (l ++ [row]).getD l.length [] = row := by rw [List.getD_eq_getElem?_getD, List.getElem?_append_right (Nat.le_refl _)]; simp
    rw [e]; exact ⟨h1, h2⟩
end Go.Proofs.Ytfapnipmgmpgaaa

namespace Go.Proofs.Ytfapnipmgmpgaaa
open Go.RowKit

end Go.Proofs.Ytfapnipmgmpgaaa

namespace Go.Proofs.Ytfapnipmgmpgaaa
open Go.RowKit

end Go.Proofs.Ytfapnipmgmpgaaa

namespace Go.Proofs.Ytfapnipmgmpgaaa
open Go.RowKit

/-- The value v reads as a ride: an automaton, a grammar, its lengths, its maps. -/
def RideV (w : World) (B : Nat) (v : Value) (a : GAuto) (xs : List GRule) (ls : List Int) : Prop :=
  ∃ vF vN vR vL vM, v = .agg #[.int .i64 a.states, .int .i64 a.start, vF, vN, vR, vL, vM] ∧ Sl IntE w B vF a.finals ∧ Sl (SliceE IntE) w B vN a.next ∧ Sl RuleE w B vR xs ∧ Sl IntE w B vL ls ∧ Sl (SliceE IntE) w B vM (mapsOf a.next xs)
theorem RideV.below {w w' : World} {B : Nat} {v : Value} {a : GAuto} {xs : List GRule} {ls : List Int} (h : RideV w B v a xs ls) (hb : Below B w w') : RideV w' B v a xs ls := by
  obtain ⟨vF, vN, vR, vL, vM, rfl, h1, h2, h3, h4, h5⟩ := h
  exact ⟨vF, vN, vR, vL, vM, rfl, h1.below hb, h2.below hb, h3.below hb, h4.below hb, h5.below hb⟩
theorem RideV.le {w : World} {B B' : Nat} {v : Value} {a : GAuto} {xs : List GRule} {ls : List Int} (h : RideV w B v a xs ls) (hb : B ≤ B') : RideV w B' v a xs ls := by
  obtain ⟨vF, vN, vR, vL, vM, rfl, h1, h2, h3, h4, h5⟩ := h
  exact ⟨vF, vN, vR, vL, vM, rfl, h1.le hb, h2.le hb, h3.le hb, h4.le hb, h5.le hb⟩
theorem RideV.up {w0 w : World} {v : Value} {a : GAuto} {xs : List GRule} {ls : List Int} (h : RideV w0 w0.heap.size v a xs ls) (hb : Below w0.heap.size w0 w) : RideV w w.heap.size v a xs ls := (h.below hb).le hb.size
end Go.Proofs.Ytfapnipmgmpgaaa

namespace Go.Proofs.Ytfapnipmgmpgaaa
open Go.RowKit

def lastI (l : List Int) : Int := l.getD (l.length - 1) 0
theorem Wk.set {C : Nat → Prop} {w : World} {b o : Nat} {v : Value} (h : ¬ C b) : Wk C w (w.setCell ⟨b, o, none⟩ v).drew :=
  ⟨rfl, rfl, rfl, by show w.heap.size ≤ (w.setCell ⟨b, o, none⟩ v).heap.size; simp, fun k hk => heap_setCell_other w ⟨b, o, none⟩ k v (fun e => h (by have e' : k = b := e; exact e' ▸ hk))⟩
/-- What stands behind some rules in the state box bs. -/
structure RJ (w0 : World) (bs n : Nat) (C : Nat → Prop) (s : Nat) (w : World) : Prop where
  wk : Wk (fun b => b < w0.heap.size ∧ b ≠ bs) w0 w
  cell : w.cell? ⟨bs, 0, none⟩ = some (.int .i64 s)
  fr : w.frozen? ⟨bs, 0, none⟩ = false
  nc : ¬ C bs
  lt : s < n
theorem RJ.ext {w0 : World} {bs n : Nat} (hbs : bs < w0.heap.size) : ∀ C s w w', RJ w0 bs n C s w → Below w.heap.size w w' → (∀ b, C b → b < w.heap.size) → RJ w0 bs n (ext C w.heap.size w'.heap.size) s w' := by
  intro C s w w' h hb hC
  have hsz := h.wk.size
  refine ⟨h.wk.trans (Wk.of_below hb fun k hk => by have := hk.1; omega), (hb.cell (p := ⟨bs, 0, none⟩) (by show bs < _; omega)).trans h.cell, (hb.frozen (p := ⟨bs, 0, none⟩) (by show bs < _; omega)).trans h.fr, ?_, h.lt⟩
  intro h'
  rcases h' with h' | h'
  · exact h.nc h'
  · omega

end Go.Proofs.Ytfapnipmgmpgaaa

namespace Go.Proofs.Ytfapnipmgmpgaaa

/-- The letters of a rule's word. -/
def wordR (xs : List GRule) : Nat → Nat → List UInt8
  | 0, _ => []
  | f + 1, r => if (getR xs r).pair then wordR xs f (getR xs r).left.toNat ++ wordR xs f (getR xs r).right.toNat else (getR xs r).letter.data.toList
def W1 (xs : List GRule) (r : Nat) : List UInt8 := wordR xs (r + 1) r
/-- The word of a grammar. -/
def wordG (xs : List GRule) : List UInt8 := if xs = [] then [] else W1 xs (xs.length - 1)
/-- What lies from i to j. -/
def cutL {α : Type} (l : List α) (i j : Int) : List α := (l.take j.toNat).drop i.toNat

theorem wordR_fuel {xs : List GRule} {ls : List Int} (h : lens xs = some ls) : ∀ (f r : Nat), r < f → r < xs.length → wordR xs f r = W1 xs r := by
  intro f
  induction f using Nat.strongRecOn with
  | _ f ih =>
    intro r hr hx
    obtain ⟨g, rfl⟩ : ∃ g, f = g + 1 := ⟨f - 1, by omega⟩
    unfold W1
    rw [wordR, wordR]
    cases hp : (getR xs r).pair with
    | false => rfl
    | true =>
      obtain ⟨q1, q2, q3, q4, q5⟩ := lens_pair h hx hp
      rw [if_pos rfl, if_pos rfl, ih g (by omega) _ (by omega) (by omega), ih g (by omega) _ (by omega) (by omega)]
      by_cases e : r = g
      · subst e
        rw [ih r (by omega) _ (by omega) (by omega), ih r (by omega) _ (by omega) (by omega)]
      · rw [ih r (by omega) _ q2 (by omega), ih r (by omega) _ q4 (by omega)]
theorem W1_pair {xs : List GRule} {ls : List Int} (h : lens xs = some ls) {r : Nat} (hx : r < xs.length) (hp : (getR xs r).pair = true) : W1 xs r = W1 xs (getR xs r).left.toNat ++ W1 xs (getR xs r).right.toNat := by
  obtain ⟨q1, q2, q3, q4, q5⟩ := lens_pair h hx hp
  rw [W1, wordR, if_pos hp, wordR_fuel h r _ q2 (by omega), wordR_fuel h r _ q4 (by omega)]
theorem W1_let {xs : List GRule} {r : Nat} (hp : (getR xs r).pair = false) : W1 xs r = (getR xs r).letter.data.toList := by
  rw [W1, wordR, if_neg (by simp [hp])]
theorem lens_isLet {xs : List GRule} {ls : List Int} (h : lens xs = some ls) {r : Nat} (hx : r < xs.length) (hp : (getR xs r).pair = false) : isLet (getR xs r).letter = true := by
  have h1 := (lens_steps h r _ (getR_at hx)).1
  unfold okRule at h1
  rw [if_neg (by simp [hp])] at h1
  simp at h1; exact h1.1.1
theorem isLet_size {s : ByteArray} (h : isLet s = true) : s.size = 1 := by unfold isLet at h; simp at h; exact h.1.1
theorem W1_len {xs : List GRule} {ls : List Int} (h : lens xs = some ls) : ∀ (r : Nat), r < xs.length → ((W1 xs r).length : Int) = ls.getD r 0 := by
  intro r
  induction r using Nat.strongRecOn with
  | _ r ih =>
    intro hx
    cases hp : (getR xs r).pair with
    | false =>
      rw [W1_let hp, lens_letter h hx hp]
      have := isLet_size (lens_isLet h hx hp)
      show (((getR xs r).letter.data.toList.length : Nat) : Int) = 1
      rw [Array.length_toList]
      exact congrArg _ this
    | true =>
      obtain ⟨q1, q2, q3, q4, q5⟩ := lens_pair h hx hp
      rw [W1_pair h hx hp, List.length_append, q5, ← ih _ q2 (by omega), ← ih _ q4 (by omega)]
      omega
theorem cutL_append {α : Type} (a b : List α) (i j : Int) : cutL (a ++ b) i j = cutL a i j ++ cutL b (i - a.length) (j - a.length) := by
  unfold cutL
  rw [List.take_append, List.drop_append]
  have e1 : (j - (a.length : Int)).toNat = j.toNat - a.length := by omega
  have e2 : (i - (a.length : Int)).toNat = i.toNat - a.length := by omega
  rw [e1, e2, List.length_take]
  congr 1
  by_cases hj : j.toNat ≤ a.length
  · have : List.take (j.toNat - a.length) b = [] := by rw [show j.toNat - a.length = 0 by omega]; rfl
    rw [this]; simp
  · rw [show min j.toNat a.length = a.length by omega]
theorem cutL_nil {α : Type} {l : List α} {i j : Int} (h : (l.length : Int) ≤ i ∨ j ≤ 0 ∨ j ≤ i) : cutL l i j = [] := by
  unfold cutL
  apply List.drop_eq_nil_of_le
  rw [List.length_take]; omega
theorem cutL_all {α : Type} {l : List α} {i j : Int} (hi : i ≤ 0) (hj : (l.length : Int) ≤ j) : cutL l i j = l := by
  unfold cutL
  rw [show i.toNat = 0 by omega, List.drop_zero, List.take_of_length_le (by omega)]
theorem cutL_len {α : Type} {l : List α} {i j : Int} (hi : 0 ≤ i) (hij : i ≤ j) (hj : j ≤ l.length) : ((cutL l i j).length : Int) = j - i := by
  unfold cutL
  rw [List.length_drop, List.length_take]; omega
/-- The words of a cover are what lies from i to j. -/
theorem cover_word {xs : List GRule} {ls : List Int} (h : lens xs = some ls) {i j : Int} : ∀ (f r : Nat) (p : Int), r < f → r < xs.length →
    (coverR xs ls i j f r p).flatMap (W1 xs) = cutL (W1 xs r) (i - p) (j - p) := by
  intro f
  induction f with
  | zero => intro r p hr; omega
  | succ f ih =>
    intro r p hr hx
    have hw := W1_len h r hx
    have h1 := lens_pos' h hx
    rw [coverR]
    split
    · rename_i c; rw [cutL_nil (by omega)]; rfl
    split
    · rename_i c; rw [cutL_all (by omega) (by omega)]; simp
    rename_i c1 c2
    cases hp : (getR xs r).pair with
    | false => have := lens_letter h hx hp; omega
    | true =>
      obtain ⟨q1, q2, q3, q4, q5⟩ := lens_pair h hx hp
      rw [List.flatMap_append, ih _ _ (by omega) (by omega), ih _ _ (by omega) (by omega), W1_pair h hx hp, cutL_append, W1_len h _ (by omega)]
      congr 2 <;> omega
theorem wordG_pos {xs : List GRule} (h : 0 < xs.length) : wordG xs = W1 xs (xs.length - 1) := by
  rw [wordG, if_neg (by intro e; subst e; simp at h)]
theorem lastI_at {xs : List GRule} {ls : List Int} (h : lens xs = some ls) (_h0 : 0 < xs.length) : lastI ls = ls.getD (xs.length - 1) 0 := by
  rw [lastI, lens_length h]
theorem wordG_len {xs : List GRule} {ls : List Int} (h : lens xs = some ls) : ((wordG xs).length : Int) = lastI ls := by
  by_cases h0 : 0 < xs.length
  · rw [wordG_pos h0, W1_len h _ (by omega), lastI_at h h0]
  · have hx : xs = [] := List.eq_nil_of_length_eq_zero (by omega)
    subst hx
    have : ls = [] := List.eq_nil_of_length_eq_zero (by rw [lens_length h]; rfl)
    subst this; rfl
theorem pieces_word {xs : List GRule} {ls : List Int} (h : lens xs = some ls) {i j : Int} : (piecesL xs ls i j).flatMap (W1 xs) = cutL (wordG xs) i j := by
  unfold piecesL
  split
  · rename_i c
    rw [cover_word h _ _ _ (by omega) (by omega), wordG_pos c.1, Int.sub_zero, Int.sub_zero]
  · rename_i c
    by_cases h0 : 0 < xs.length
    · rw [cutL_nil (by omega)]; rfl
    · have hx : xs = [] := List.eq_nil_of_length_eq_zero (by omega)
      subst hx
      simp [wordG, cutL]
end Go.Proofs.Ytfapnipmgmpgaaa

namespace Go.Proofs.Ytfapnipmgmpgaaa

/-- What the reference's cover of a part is. -/
def coverS (xs : List GRule) (ls : List Int) : Nat → Nat → Int → Int → List Nat
  | 0, _, _, _ => []
  | f + 1, r, i, j =>
    if j ≤ i then [] else if i = 0 ∧ j = ls.getD r 0 then [r] else
      coverS xs ls f (getR xs r).left.toNat i (min j (ls.getD (getR xs r).left.toNat 0)) ++ coverS xs ls f (getR xs r).right.toNat (max (i - ls.getD (getR xs r).left.toNat 0) 0) (j - ls.getD (getR xs r).left.toNat 0)
theorem coverS_eq {xs : List GRule} {ls : List Int} (hl : lens xs = some ls) {i j : Int} (hij : i < j) : ∀ (f r : Nat) (p : Int), r < f → r < xs.length →
    coverS xs ls f r (max (i - p) 0) (min (j - p) (ls.getD r 0)) = coverR xs ls i j f r p := by
  intro f
  induction f with
  | zero => intro r p hr; omega
  | succ f ih =>
    intro r p hr hx
    have h1 := lens_pos' hl hx
    rw [coverS, coverR]
    by_cases c1 : p + ls.getD r 0 ≤ i ∨ j ≤ p
    · rw [if_pos c1, if_pos (by omega)]
    rw [if_neg c1, if_neg (by omega)]
    by_cases c2 : i ≤ p ∧ p + ls.getD r 0 ≤ j
    · rw [if_pos c2, if_pos (by omega)]
    rw [if_neg c2, if_neg (by omega)]
    cases hpair : (getR xs r).pair with
    | false => have := lens_letter hl hx hpair; omega
    | true =>
      obtain ⟨q1, q2, q3, q4, q5⟩ := lens_pair hl hx hpair
      have hL := lens_pos' hl (r := (getR xs r).left.toNat) (by omega)
      have hR := lens_pos' hl (r := (getR xs r).right.toNat) (by omega)
      have e1 := ih (getR xs r).left.toNat p (by omega) (by omega)
      have e2 := ih (getR xs r).right.toNat (p + ls.getD (getR xs r).left.toNat 0) (by omega) (by omega)
      rw [← e1, ← e2]
      congr 1
      · congr 1; omega
      · congr 1 <;> omega
theorem pieces_cover {xs : List GRule} {ls : List Int} (hl : lens xs = some ls) {i j : Int} (hi : 0 ≤ i) (hij : i < j) (hj : j ≤ lastI ls) (h0 : 0 < xs.length) : piecesL xs ls i j = coverS xs ls xs.length (xs.length - 1) i j := by
  have hll := lens_length hl
  have e : lastI ls = ls.getD (xs.length - 1) 0 := by rw [lastI, hll]
  have := coverS_eq hl hij xs.length (xs.length - 1) 0 (by omega) (by omega)
  rw [piecesL, if_pos ⟨h0, hij⟩, ← this]
  congr 1 <;> omega
theorem cover_mem {xs : List GRule} {ls : List Int} (hl : lens xs = some ls) {i j : Int} : ∀ (f r : Nat) (p : Int), r < f → r < xs.length → ∀ x ∈ coverR xs ls i j f r p, x < xs.length := by
  intro f
  induction f with
  | zero => intro r p hr; omega
  | succ f ih =>
    intro r p hr hx y hy
    rw [coverR] at hy
    have h1 := lens_pos' hl hx
    split at hy
    · simp at hy
    split at hy
    · simp at hy; omega
    rename_i c1 c2
    cases hpair : (getR xs r).pair with
    | false => have := lens_letter hl hx hpair; omega
    | true =>
      obtain ⟨q1, q2, q3, q4, q5⟩ := lens_pair hl hx hpair
      rcases List.mem_append.1 hy with hy | hy
      · exact ih _ _ (by omega) (by omega) y hy
      · exact ih _ _ (by omega) (by omega) y hy
theorem cover_one {xs : List GRule} {ls : List Int} (hl : lens xs = some ls) {i j : Int} : ∀ (f r : Nat) (p : Int), r < f → r < xs.length → (i ≤ p ∨ p + ls.getD r 0 ≤ j) → (coverR xs ls i j f r p).length ≤ r + 1 := by
  intro f
  induction f with
  | zero => intro r p hr; omega
  | succ f ih =>
    intro r p hr hx ho
    rw [coverR]
    have h1 := lens_pos' hl hx
    split
    · simp
    split
    · simp
    rename_i c1 c2
    cases hpair : (getR xs r).pair with
    | false => have := lens_letter hl hx hpair; omega
    | true =>
      obtain ⟨q1, q2, q3, q4, q5⟩ := lens_pair hl hx hpair
      have hL := lens_pos' hl (r := (getR xs r).left.toNat) (by omega)
      have hR := lens_pos' hl (r := (getR xs r).right.toNat) (by omega)
      obtain ⟨g, rfl⟩ : ∃ g, f = g + 1 := ⟨f - 1, by omega⟩
      rw [List.length_append]
      rcases ho with ho | ho
      · by_cases c3 : p + ls.getD (getR xs r).left.toNat 0 ≤ j
        · have e1 : (coverR xs ls i j (g + 1) (getR xs r).left.toNat p).length = 1 := by rw [coverR, if_neg (by omega), if_pos (by omega)]; rfl
          have e2 := ih (getR xs r).right.toNat (p + ls.getD (getR xs r).left.toNat 0) (by omega) (by omega) (.inl (by omega))
          omega
        · have e2 : (coverR xs ls i j (g + 1) (getR xs r).right.toNat (p + ls.getD (getR xs r).left.toNat 0)).length = 0 := by rw [coverR, if_pos (by omega)]; rfl
          have e1 := ih (getR xs r).left.toNat p (by omega) (by omega) (.inl ho)
          omega
      · by_cases c3 : i ≤ p + ls.getD (getR xs r).left.toNat 0
        · have e2 : (coverR xs ls i j (g + 1) (getR xs r).right.toNat (p + ls.getD (getR xs r).left.toNat 0)).length ≤ 1 := by
            rw [coverR]
            split
            · simp
            rw [if_pos (by omega)]; simp
          have e1 := ih (getR xs r).left.toNat p (by omega) (by omega) (.inr (by omega))
          omega
        · have e1 : (coverR xs ls i j (g + 1) (getR xs r).left.toNat p).length = 0 := by rw [coverR, if_pos (by omega)]; rfl
          have e2 := ih (getR xs r).right.toNat (p + ls.getD (getR xs r).left.toNat 0) (by omega) (by omega) (.inr (by omega))
          omega
theorem cover_two {xs : List GRule} {ls : List Int} (hl : lens xs = some ls) {i j : Int} : ∀ (f r : Nat) (p : Int), r < f → r < xs.length → (coverR xs ls i j f r p).length ≤ 2 * (r + 1) := by
  intro f
  induction f with
  | zero => intro r p hr; omega
  | succ f ih =>
    intro r p hr hx
    rw [coverR]
    have h1 := lens_pos' hl hx
    split
    · simp
    split
    · simp; omega
    rename_i c1 c2
    cases hpair : (getR xs r).pair with
    | false => have := lens_letter hl hx hpair; omega
    | true =>
      obtain ⟨q1, q2, q3, q4, q5⟩ := lens_pair hl hx hpair
      have hL := lens_pos' hl (r := (getR xs r).left.toNat) (by omega)
      have hR := lens_pos' hl (r := (getR xs r).right.toNat) (by omega)
      obtain ⟨g, rfl⟩ : ∃ g, f = g + 1 := ⟨f - 1, by omega⟩
      rw [List.length_append]
      by_cases c3 : j ≤ p + ls.getD (getR xs r).left.toNat 0
      · have e2 : (coverR xs ls i j (g + 1) (getR xs r).right.toNat (p + ls.getD (getR xs r).left.toNat 0)).length = 0 := by rw [coverR, if_pos (by omega)]; rfl
        have e1 := ih (getR xs r).left.toNat p (by omega) (by omega)
        omega
      · by_cases c4 : p + ls.getD (getR xs r).left.toNat 0 ≤ i
        · have e1 : (coverR xs ls i j (g + 1) (getR xs r).left.toNat p).length = 0 := by rw [coverR, if_pos (by omega)]; rfl
          have e2 := ih (getR xs r).right.toNat (p + ls.getD (getR xs r).left.toNat 0) (by omega) (by omega)
          omega
        · have e1 := cover_one hl (i := i) (j := j) (g + 1) (getR xs r).left.toNat p (by omega) (by omega) (.inr (by omega))
          have e2 := cover_one hl (i := i) (j := j) (g + 1) (getR xs r).right.toNat (p + ls.getD (getR xs r).left.toNat 0) (by omega) (by omega) (.inl (by omega))
          omega
theorem cover_pos {xs : List GRule} {ls : List Int} (hl : lens xs = some ls) {i j : Int} (hij : i < j) : ∀ (f r : Nat) (p : Int), r < f → r < xs.length → i < p + ls.getD r 0 → p < j → 0 < (coverR xs ls i j f r p).length := by
  intro f
  induction f with
  | zero => intro r p hr; omega
  | succ f ih =>
    intro r p hr hx ha hb
    rw [coverR, if_neg (by omega)]
    have h1 := lens_pos' hl hx
    split
    · simp
    rename_i c2
    cases hpair : (getR xs r).pair with
    | false => have := lens_letter hl hx hpair; omega
    | true =>
      obtain ⟨q1, q2, q3, q4, q5⟩ := lens_pair hl hx hpair
      have hL := lens_pos' hl (r := (getR xs r).left.toNat) (by omega)
      have hR := lens_pos' hl (r := (getR xs r).right.toNat) (by omega)
      rw [List.length_append]
      by_cases c3 : i < p + ls.getD (getR xs r).left.toNat 0
      · have := ih (getR xs r).left.toNat p (by omega) (by omega) c3 hb
        omega
      · have := ih (getR xs r).right.toNat (p + ls.getD (getR xs r).left.toNat 0) (by omega) (by omega) (by omega) (by omega)
        omega

/-- The rules of a cover joined, behind the rules. -/
def joinStep (p : List GRule × Int) (c : Nat) : List GRule × Int := (p.1 ++ [pairR p.2 c], (p.1.length : Int))
def cutG (xs : List GRule) : List Nat → List GRule
  | [] => []
  | [c] => xs.take (c + 1)
  | c :: d :: cs => ((d :: cs).foldl joinStep (xs, (c : Int))).1
def partG (xs : List GRule) (ls : List Int) (i j : Int) : List GRule := trimG (cutG xs (piecesL xs ls i j))
theorem join_ok {m : Nat} : ∀ (cs : List Nat) (p : List GRule × Int), (∀ c ∈ cs, c < m) → m ≤ p.1.length → OkAll p.1 → 0 ≤ p.2 ∧ p.2 < p.1.length → OkAll (cs.foldl joinStep p).1 ∧ (cs.foldl joinStep p).1.length = p.1.length + cs.length
  | [], p, _, _, h, _ => ⟨h, rfl⟩
  | c :: cs, p, hc, hm, h, hp => by
    have hcm := hc c (by simp)
    have := join_ok cs (joinStep p c) (fun d hd => hc d (by simp [hd])) (by simp [joinStep]; omega) (h.snoc (okRule_pair hp ⟨by omega, by omega⟩)) (by simp [joinStep]; omega)
    refine ⟨this.1, ?_⟩
    rw [List.foldl_cons, this.2]
    simp [joinStep]; omega
theorem okAll_take {xs : List GRule} (h : OkAll xs) (n : Nat) : OkAll (xs.take n) := fun k r hk => by
  rw [List.getElem?_take] at hk
  split at hk
  · exact h k r hk
  · cases hk
theorem cutG_ok {xs : List GRule} (h : OkAll xs) (cs : List Nat) (hc : ∀ c ∈ cs, c < xs.length) : OkAll (cutG xs cs) ∧ (cutG xs cs).length ≤ xs.length + cs.length := by
  match cs with
  | [] => exact ⟨fun k r hk => by simp [cutG] at hk, by simp [cutG]⟩
  | [c] => exact ⟨okAll_take h _, by simp [cutG]; omega⟩
  | c :: d :: cs =>
    have := join_ok (d :: cs) (xs, (c : Int)) (fun x hx => hc x (by simp at hx; simp; exact .inr hx)) (Nat.le_refl _) h (by have := hc c (by simp); simp; omega)
    refine ⟨this.1, ?_⟩
    have e : (cutG xs (c :: d :: cs)).length = xs.length + (d :: cs).length := this.2
    rw [e]; simp
theorem pieces_len {xs : List GRule} {ls : List Int} (hl : lens xs = some ls) (i j : Int) : (piecesL xs ls i j).length ≤ 2 * xs.length := by
  unfold piecesL
  split
  · rename_i h
    have := cover_two hl (i := i) (j := j) xs.length (xs.length - 1) 0 (by omega) (by omega)
    omega
  · simp
theorem pieces_mem {xs : List GRule} {ls : List Int} (hl : lens xs = some ls) (i j : Int) : ∀ x ∈ piecesL xs ls i j, x < xs.length := by
  unfold piecesL
  split
  · rename_i h
    exact cover_mem hl xs.length (xs.length - 1) 0 (by omega) (by omega)
  · simp
theorem pieces_pos {xs : List GRule} {ls : List Int} (hl : lens xs = some ls) {i j : Int} (hi : 0 ≤ i) (hij : i < j) (hj : j ≤ lastI ls) (h0 : 0 < xs.length) : 0 < (piecesL xs ls i j).length := by
  have hll := lens_length hl
  have e : lastI ls = ls.getD (xs.length - 1) 0 := by rw [lastI, hll]
  rw [piecesL, if_pos ⟨h0, hij⟩]
  exact cover_pos hl hij xs.length (xs.length - 1) 0 (by omega) (by omega) (by omega) (by omega)
theorem partG_len {xs : List GRule} {ls : List Int} (hl : lens xs = some ls) (i j : Int) : (partG xs ls i j).length ≤ 3 * xs.length := by
  have h1 := trimG_len (cutG xs (piecesL xs ls i j))
  have h2 := (cutG_ok (okAll_lens hl) _ (pieces_mem hl i j)).2
  have h3 := pieces_len hl i j
  unfold partG; omega
end Go.Proofs.Ytfapnipmgmpgaaa

namespace Go.Proofs.Ytfapnipmgmpgaaa
open Go.RowKit

def limOut (xs : List GRule) : List GRule := if gramOk xs then xs else []
def limCode (xs : List GRule) : Int := if gramOk xs then 0 else 3
theorem gram_lens {xs : List GRule} (h : gramOk xs = true) : xs.length ≤ 400 ∧ ∃ ls, lens xs = some ls := by
  simp only [gramOk, Bool.and_eq_true, decide_eq_true_eq] at h
  exact ⟨h.1, Option.isSome_iff_exists.1 h.2⟩
def LimPost (base : Nat) (xs : List GRule) (w : World) (e : Ending) (w' : World) : Prop :=
  Below w.heap.size w w' ∧ ∃ v', OwnRules w' base v' (limOut xs) ∧ e = .returned (.tuple #[.agg #[v'], .int .i64 (limCode xs)])

theorem orLimit_any (base : Nat) (v : Value) (xs : List GRule) (w : World) (h : OwnRules w base v xs) (hn : xs.length ≤ 1099511627776) :
    Calls Try.prog 142 #[.agg #[v]] w (LimPost base xs w) := by
  have h1 := fun o o' => (h.sl.below (((Below.refl w.heap.size w).alloc (Nat.le_refl _) o).alloc (by simp) o')).le (B' := ((w.alloc o).alloc o').heap.size) (by simp; omega)
  have hv : v.ownBlock ≠ some (w.heap.size + 1) := fun e => by have := (World.ownsRow.lt h _ e).2; omega
  have H1 := Lib.hid h1
  have H := Lib.hid h
  have Hv := Lib.hid hv
  clear h1 hv
  obtain ⟨A, c, rfl, _⟩ := own_nil h
  clear h
  go_enter Try.func142, Try.ntmps142
  go_wp2_with fail
  refine (ValidGrammar_any _ _ _ (H1.out _ _) hn).mono ?_
  rintro e w1 ⟨rfl, hb1⟩
  obtain ⟨hc1, hf1⟩ := bcell hb1
  have hz1 : w.heap.size + 1 < w1.heap.size := by have := hb1.size; simp at this; omega
  have hc2 : w1.cell? ⟨w.heap.size + 1, 0, none⟩ = some (.slice none 0 0) := by rw [hc1 _ _ (by simp)]; simp [go_sem]
  have hf2 : w1.frozen? ⟨w.heap.size + 1, 0, none⟩ = false := by rw [hf1 _ _ (by simp)]; simp [go_sem]
  have hc3 : w1.cell? ⟨w.heap.size, 0, none⟩ = some (.slice A xs.length c) := by rw [hc1 _ _ (by simp; omega)]; simp [go_sem]
  have Hb1 := Lib.hid (((Below.refl w.heap.size w).alloc (Nat.le_refl _) (Obj.cells #[Value.slice A xs.length c] 32)).alloc (by simp) (Obj.cells #[Value.slice none 0 0] 32) |>.trans (hb1.mono (by simp; omega)))
  clear hc1 hf1 hb1
  by_cases hok : gramOk xs = true
  · have hok2 : (!gramOk xs) = false := by simp [hok]
    have Hok := Lib.hid hok
    clear hok
    go_wp2
    refine bodyPost_ret (v := .tuple #[.agg #[.slice A xs.length c], .int .i64 0]) (by simp [results, Try.results142, go_sem, hc2]) rfl ⟨?_, _, ?_, by rw [limCode, if_pos Hok.out]⟩
    · exact Hb1.out.setCell (by show w.heap.size ≤ w.heap.size + 1; omega) _
    · rw [limOut, if_pos Hok.out]
      refine own_keep (OwnRules.below H.out Hb1.out) fun g hg => Below.heap_setCell _ _ _ _ (fun e => Hv.out ?_)
      rw [hg, e]
  · have hok2 : (!gramOk xs) = true := by simp [hok]
    have Hok := Lib.hid hok
    clear hok
    go_wp2
    refine bodyPost_ret (v := .tuple #[.agg #[.slice none 0 0], .int .i64 3]) (by simp [results, Try.results142, go_sem, hc2]) rfl ⟨?_, _, ?_, by rw [limCode, if_neg Hok.out]⟩
    · exact Hb1.out.setCell (by show w.heap.size ≤ w.heap.size + 1; omega) _
    · rw [limOut, if_neg Hok.out]; exact World.ownsRow_nil _ _ _ _

end Go.Proofs.Ytfapnipmgmpgaaa

namespace Go.Proofs.Ytfapnipmgmpgaaa

theorem okA_at {xs : List GRule} (h : OkAll xs) {r : Nat} (hx : r < xs.length) (hp : (getR xs r).pair = true) :
    0 ≤ (getR xs r).left ∧ (getR xs r).left.toNat < r ∧ 0 ≤ (getR xs r).right ∧ (getR xs r).right.toNat < r := okRule_at (h r _ (getR_at hx)) hp
theorem wordR_fuelA {xs : List GRule} (h : OkAll xs) : ∀ (f r : Nat), r < f → r < xs.length → wordR xs f r = W1 xs r := by
  intro f
  induction f using Nat.strongRecOn with
  | _ f ih =>
    intro r hr hx
    obtain ⟨g, rfl⟩ : ∃ g, f = g + 1 := ⟨f - 1, by omega⟩
    unfold W1
    rw [wordR, wordR]
    cases hp : (getR xs r).pair with
    | false => rfl
    | true =>
      obtain ⟨q1, q2, q3, q4⟩ := okA_at h hx hp
      rw [if_pos rfl, if_pos rfl, ih g (by omega) _ (by omega) (by omega), ih g (by omega) _ (by omega) (by omega)]
      by_cases e : r = g
      · subst e
        rw [ih r (by omega) _ (by omega) (by omega), ih r (by omega) _ (by omega) (by omega)]
      · rw [ih r (by omega) _ q2 (by omega), ih r (by omega) _ q4 (by omega)]
theorem W1_pairA {xs : List GRule} (h : OkAll xs) {r : Nat} (hx : r < xs.length) (hp : (getR xs r).pair = true) : W1 xs r = W1 xs (getR xs r).left.toNat ++ W1 xs (getR xs r).right.toNat := by
  obtain ⟨q1, q2, q3, q4⟩ := okA_at h hx hp
  rw [W1, wordR, if_pos hp, wordR_fuelA h r _ q2 (by omega), wordR_fuelA h r _ q4 (by omega)]
theorem W1_same {xs : List GRule} (h : OkAll xs) {i j : Nat} (hi : i < xs.length) (hj : j < xs.length) (e : getR xs i = getR xs j) : W1 xs i = W1 xs j := by
  cases hp : (getR xs i).pair with
  | true => rw [W1_pairA h hi hp, W1_pairA h hj (by rw [← e]; exact hp), e]
  | false => rw [W1_let hp, W1_let (by rw [← e]; exact hp), e]
theorem W1_app {xs ys : List GRule} (h : OkAll xs) (h' : OkAll (xs ++ ys)) : ∀ (r : Nat), r < xs.length → W1 (xs ++ ys) r = W1 xs r := by
  intro r
  induction r using Nat.strongRecOn with
  | _ r ih =>
    intro hx
    have e : getR (xs ++ ys) r = getR xs r := getR_append hx
    cases hp : (getR xs r).pair with
    | true =>
      obtain ⟨q1, q2, q3, q4⟩ := okA_at h hx hp
      rw [W1_pairA h hx hp, W1_pairA h' (by simp; omega) (by rw [e]; exact hp), e, ih _ q2 (by omega), ih _ q4 (by omega)]
    | false => rw [W1_let hp, W1_let (by rw [e]; exact hp), e]
theorem W1_let1 {xs : List GRule} (h : OkAll xs) {r : Nat} (hx : r < xs.length) (hp : (getR xs r).pair = false) : (W1 xs r).length = 1 := by
  rw [W1_let hp]
  have := (okRule_let (h r _ (getR_at hx)) hp).1
  rw [Array.length_toList]; exact this
/-- A list of right rules of which no word is too long has lengths: those of its words. -/
theorem lens_ofA {xs : List GRule} (h : OkAll xs) (hm : ∀ r, r < xs.length → ((W1 xs r).length : Int) ≤ maxL) : ∃ ls, lens xs = some ls := by
  suffices H : ∀ k, k ≤ xs.length → ∃ out, lens (xs.take k) = some out ∧ out.length = k ∧ ∀ r, r < k → out.getD r 0 = ((W1 xs r).length : Int) by
    obtain ⟨out, h1, _⟩ := H xs.length (Nat.le_refl _)
    rw [List.take_length] at h1
    exact ⟨out, h1⟩
  intro k
  induction k with
  | zero => intro _; exact ⟨[], rfl, rfl, fun r hr => absurd hr (by omega)⟩
  | succ k ih =>
    intro hk
    obtain ⟨out, h1, h2, h3⟩ := ih (by omega)
    have hr := getR_at (xs := xs) (r := k) (by omega)
    have hok := h k _ hr
    have hlen : ruleLen out (getR xs k) = ((W1 xs k).length : Int) := by
      unfold ruleLen
      cases hp : (getR xs k).pair with
      | true =>
        obtain ⟨q1, q2, q3, q4⟩ := okA_at h (by omega) hp
        rw [if_pos rfl, h3 _ q2, h3 _ q4, W1_pairA h (by omega) hp, List.length_append]; omega
      | false => rw [if_neg (by simp), W1_let1 h (by omega) hp]; rfl
    have := hm k (by omega)
    refine ⟨_, lens_next h1 hr (by rw [h2]; exact hok) (by rw [hlen]; exact this), by simp [h2], fun r hr => ?_⟩
    rcases Nat.lt_or_ge r k with hlt | hge
    · rw [getI_append (by omega)]; exact h3 r hlt
    · have : r = out.length := by omega
      subst this
      rw [getI_last, hlen, h2]
theorem lens_W1 {xs : List GRule} {ls : List Int} (h : lens xs = some ls) {r : Nat} (hx : r < xs.length) : ((W1 xs r).length : Int) ≤ maxL := by
  rw [W1_len h r hx, List.getD_eq_getElem?_getD, List.getElem?_eq_getElem (by rw [lens_length h]; exact hx)]
  exact (lens_pos h _ (List.getElem_mem _)).2

theorem trimR_more {S : List Int} {x : Int} {r : GRule} (h : r.pair = true → r.left.toNat < S.length ∧ r.right.toNat < S.length) : trimR (S ++ [x]) r = trimR S r := by
  cases hp : r.pair with
  | true => rw [trimR_pair hp, trimR_pair hp, getI_append (h hp).1, getI_append (h hp).2]
  | false => rw [trimR_let hp, trimR_let hp]
theorem canon_get {xs : List GRule} (h : OkAll xs) : ∀ k, k ≤ xs.length → ∀ i, i < k → getR (canon (xs.take k)).1 i = trimR (canon (xs.take k)).2 (getR xs i) := by
  intro k
  induction k with
  | zero => intro _ i hi; omega
  | succ k ih =>
    intro hk i hi
    have H := ih (by omega)
    have C := canon_ok h k (by omega)
    have hr := getR_at (xs := xs) (r := k) (by omega)
    rw [canon_snoc hr]
    obtain ⟨K, S, hp⟩ : ∃ K S, canon (xs.take k) = (K, S) := ⟨_, _, rfl⟩
    rw [hp] at H C ⊢
    have l1 : K.length = k := C.l1
    have l2 : S.length = k := C.l2
    show getR (K ++ [trimR S (getR xs k)]) i = trimR (S ++ [((K.idxOf (trimR S (getR xs k)) : Nat) : Int)]) (getR xs i)
    rw [trimR_more (fun hpr => by
      obtain ⟨q1, q2, q3, q4⟩ := okA_at h (show i < xs.length by omega) hpr
      omega)]
    rcases Nat.lt_or_ge i k with hlt | hge
    · rw [getR_append (by omega)]; exact H i hlt
    · have : i = K.length := by omega
      subst this
      rw [getR_last, l1]
theorem canon_word {xs : List GRule} (h : OkAll xs) : ∀ i, i < xs.length → W1 (canon xs).1 i = W1 xs i := by
  have C := canon_all h
  have G := canon_get h xs.length (Nat.le_refl _)
  rw [List.take_length] at G
  obtain ⟨K, S, hp⟩ : ∃ K S, canon xs = (K, S) := ⟨_, _, rfl⟩
  rw [hp] at C G ⊢
  have l1 : K.length = xs.length := C.l1
  have cok : OkAll K := C.ok
  intro i
  induction i using Nat.strongRecOn with
  | _ i ih =>
    intro hi
    show W1 K i = W1 xs i
    have e : getR K i = trimR S (getR xs i) := G i hi
    cases hpr : (getR xs i).pair with
    | true =>
      obtain ⟨q1, q2, q3, q4⟩ := okA_at h hi hpr
      rw [trimR_pair hpr] at e
      have key : ∀ j, j < i → (S.getD j 0).toNat < K.length ∧ W1 K (S.getD j 0).toNat = W1 xs j := by
        intro j hj
        have h1 : S.getD j 0 = ((K.idxOf (getR K j) : Nat) : Int) := C.idx j (by omega)
        have hm : getR K j ∈ K := getR_mem (by omega)
        have hlt : K.idxOf (getR K j) < K.length := List.idxOf_lt_length_iff.2 hm
        rw [h1, Int.toNat_natCast]
        refine ⟨hlt, ?_⟩
        rw [← ih j hj (by omega)]
        refine W1_same cok hlt (by omega) ?_
        exact (getR_some (List.getElem?_eq_getElem hlt)).trans (List.getElem_idxOf hlt)
      have hpk : (getR K i).pair = true := by rw [e]; rfl
      rw [W1_pairA cok (by omega) hpk, W1_pairA h hi hpr, e]
      show W1 K (S.getD (getR xs i).left.toNat 0).toNat ++ W1 K (S.getD (getR xs i).right.toNat 0).toNat = _
      rw [(key _ q2).2, (key _ q4).2]
    | false =>
      rw [trimR_let hpr] at e
      rw [W1_let (by rw [e]; exact hpr), W1_let hpr, e]

theorem set_true {l : List Bool} {i x : Nat} (h : l.getD x false = true) : (l.set i true).getD x false = true := by
  rw [List.getD_eq_getElem?_getD, List.getElem?_set]
  split
  · split
    · rfl
    · rename_i h1 h2; subst h1
      rw [List.getD_eq_getElem?_getD, List.getElem?_eq_none (by omega)] at h; simp at h
  · rw [← List.getD_eq_getElem?_getD]; exact h
theorem set_at {l : List Bool} {i : Nat} (h : i < l.length) : (l.set i true).getD i false = true := by
  rw [List.getD_eq_getElem?_getD, List.getElem?_set, if_pos rfl, if_pos h]; rfl
theorem set_ne {α : Type} {l : List α} {i x : Nat} {v d : α} (h : i ≠ x) : (l.set i v).getD x d = l.getD x d := by
  rw [List.getD_eq_getElem?_getD, List.getElem?_set, if_neg h, ← List.getD_eq_getElem?_getD]
theorem needStep_true {ks : List GRule} {l : List Bool} {i x : Nat} (h : l.getD x false = true) : (needStep ks l i).getD x false = true := by
  unfold needStep; split
  · exact set_true (set_true h)
  · exact h
theorem needDown_true {ks : List GRule} : ∀ (i : Nat) {l : List Bool} {x : Nat}, l.getD x false = true → (needDown ks i l).getD x false = true
  | 0, _, _, h => h
  | i + 1, _, _, h => needDown_true i (needStep_true h)
theorem needStep_above {ks : List GRule} (hk : OkAll ks) {l : List Bool} {i x : Nat} (hi : i < ks.length) (h : i ≤ x) : (needStep ks l i).getD x false = l.getD x false := by
  unfold needStep; split
  · rename_i c
    simp only [Bool.and_eq_true] at c
    obtain ⟨q1, q2, q3, q4⟩ := okA_at hk hi c.2
    rw [set_ne (by omega), set_ne (by omega)]
  · rfl
theorem needDown_above {ks : List GRule} (hk : OkAll ks) : ∀ (i : Nat) {l : List Bool} {x : Nat}, i ≤ ks.length → i ≤ x → (needDown ks i l).getD x false = l.getD x false
  | 0, _, _, _, _ => rfl
  | i + 1, l, x, hi, h => by rw [needDown, needDown_above hk i (by omega) (by omega), needStep_above hk (by omega) (by omega)]
theorem needDown_closed {ks : List GRule} (hk : OkAll ks) : ∀ (i : Nat) {l : List Bool} {x : Nat}, i ≤ ks.length → l.length = ks.length → x < i → (needDown ks i l).getD x false = true → (getR ks x).pair = true →
    (needDown ks i l).getD (getR ks x).left.toNat false = true ∧ (needDown ks i l).getD (getR ks x).right.toNat false = true
  | 0, _, _, _, _, hx, _, _ => by omega
  | i + 1, l, x, hi, hl, hx, h, hp => by
    rw [needDown] at h ⊢
    rcases Nat.lt_or_ge x i with hlt | hge
    · exact needDown_closed hk i (by omega) (by rw [needStep_len]; exact hl) hlt h hp
    · have : x = i := by omega
      subst this
      rw [needDown_above hk x (by omega) (Nat.le_refl _), needStep_above hk (by omega) (Nat.le_refl _)] at h
      obtain ⟨q1, q2, q3, q4⟩ := okA_at hk (by omega) hp
      have e : needStep ks l x = (l.set (getR ks x).left.toNat true).set (getR ks x).right.toNat true := by
        unfold needStep; rw [if_pos (by rw [h, hp]; rfl)]
      rw [e]
      exact ⟨needDown_true _ (set_true (set_at (by omega))), needDown_true _ (set_at (by simp; omega))⟩
theorem needDown_most {ks : List GRule} (hk : OkAll ks) {m : Nat} : ∀ (i : Nat) {l : List Bool}, i ≤ ks.length → (∀ x, l.getD x false = true → x ≤ m) → ∀ x, (needDown ks i l).getD x false = true → x ≤ m
  | 0, _, _, h, x, hx => h x hx
  | i + 1, l, hi, h, x, hx => by
    rw [needDown] at hx
    refine needDown_most hk i (by omega) (fun y hy => ?_) x hx
    unfold needStep at hy
    split at hy
    · rename_i c
      simp only [Bool.and_eq_true] at c
      obtain ⟨q1, q2, q3, q4⟩ := okA_at hk (show i < ks.length by omega) c.2
      have hm := h i c.1
      by_cases e1 : (getR ks i).right.toNat = y
      · omega
      · rw [set_ne e1] at hy
        by_cases e2 : (getR ks i).left.toNat = y
        · omega
        · rw [set_ne e2] at hy; exact h y hy
    · exact h y hy

structure OutOk (xs ks : List GRule) (need : List Bool) (k : Nat) (p : List GRule × List Int) : Prop where
  l2 : p.2.length = xs.length
  pos : ∀ i, i < k → need.getD i false = true → 0 ≤ p.2.getD i 0 ∧ (p.2.getD i 0).toNat < p.1.length
  ok : OkAll p.1
  word : ∀ i, i < k → need.getD i false = true → W1 p.1 (p.2.getD i 0).toNat = W1 ks i
  from_ : ∀ a, a < p.1.length → ∃ i, i < k ∧ need.getD i false = true ∧ (p.2.getD i 0).toNat = a
theorem out_ok {xs : List GRule} (h : OkAll xs) (hcl : ∀ x, x < xs.length → (needL xs).getD x false = true → (getR (canon xs).1 x).pair = true → (needL xs).getD (getR (canon xs).1 x).left.toNat false = true ∧ (needL xs).getD (getR (canon xs).1 x).right.toNat false = true) :
    ∀ k, k ≤ xs.length → OutOk xs (canon xs).1 (needL xs) k (trimO xs k) := by
  have C := canon_all h
  obtain ⟨K, hK⟩ : ∃ K, (canon xs).1 = K := ⟨_, rfl⟩
  have cok : OkAll K := hK ▸ C.ok
  have cl1 : K.length = xs.length := hK ▸ C.l1
  rw [hK] at hcl ⊢
  intro k
  induction k with
  | zero => intro _; exact ⟨by simp [trimO], fun i hi => absurd hi (by omega), fun k r hk => by simp [trimO] at hk, fun i hi => absurd hi (by omega), fun a ha => by simp [trimO] at ha⟩
  | succ k ih =>
    intro hk
    have H := ih (by omega)
    rw [trimO_succ, hK]
    obtain ⟨O, M, hp⟩ : ∃ O M, trimO xs k = (O, M) := ⟨_, _, rfl⟩
    rw [hp] at H ⊢
    have l2 : M.length = xs.length := H.l2
    unfold outStep
    by_cases hn : (needL xs).getD k false = true
    · rw [if_pos hn]
      obtain ⟨X, hX⟩ : ∃ X, trimR M (getR K k) = X := ⟨_, rfl⟩
      show OutOk xs K (needL xs) (k + 1) (O ++ [trimR M (getR K k)], M.set k (O.length : Int))
      have hkk : k < K.length := by omega
      have hXok : okRule O.length X = true := by
        rw [← hX]
        cases hpr : (getR K k).pair with
        | true =>
          obtain ⟨q1, q2, q3, q4⟩ := okA_at cok hkk hpr
          obtain ⟨c1, c2⟩ := hcl k (by omega) hn hpr
          obtain ⟨a1, a2⟩ := H.pos _ q2 c1
          obtain ⟨a3, a4⟩ := H.pos _ q4 c2
          rw [trimR_pair hpr]
          have a1' : 0 ≤ M.getD (getR K k).left.toNat 0 := a1
          have a2' : (M.getD (getR K k).left.toNat 0).toNat < O.length := a2
          have a3' : 0 ≤ M.getD (getR K k).right.toNat 0 := a3
          have a4' : (M.getD (getR K k).right.toNat 0).toNat < O.length := a4
          exact okRule_pair ⟨a1', by omega⟩ ⟨a3', by omega⟩
        | false =>
          rw [trimR_let hpr]
          have h1 := cok k _ (getR_at hkk)
          unfold okRule at h1 ⊢
          rw [if_neg (by simp [hpr])] at h1 ⊢
          exact h1
      rw [hX]
      have hO : OkAll O := H.ok
      have hO2 : OkAll (O ++ [X]) := hO.snoc hXok
      have hold : ∀ i, i < k → (M.set k (O.length : Int)).getD i 0 = M.getD i 0 := fun i hi => set_ne (by omega)
      have hnew : (M.set k (O.length : Int)).getD k 0 = (O.length : Int) := by
        rw [List.getD_eq_getElem?_getD, List.getElem?_set, if_pos rfl, if_pos (by omega)]; rfl
      refine ⟨by simp [l2], ?_, hO2, ?_, ?_⟩
      · intro i hi hni
        show 0 ≤ (M.set k (O.length : Int)).getD i 0 ∧ ((M.set k (O.length : Int)).getD i 0).toNat < (O ++ [X]).length
        rcases Nat.lt_or_ge i k with hlt | hge
        · rw [hold i hlt, List.length_append]
          have := H.pos i hlt hni
          exact ⟨this.1, Nat.lt_of_lt_of_le this.2 (Nat.le_add_right _ _)⟩
        · have : i = k := by omega
          subst this
          rw [hnew]; simp
      · intro i hi hni
        show W1 (O ++ [X]) ((M.set k (O.length : Int)).getD i 0).toNat = W1 K i
        rcases Nat.lt_or_ge i k with hlt | hge
        · rw [hold i hlt, W1_app hO hO2 _ (H.pos i hlt hni).2]
          exact H.word i hlt hni
        · have : i = k := by omega
          subst this
          rw [hnew, Int.toNat_natCast]
          have eX : getR (O ++ [X]) O.length = X := getR_last _ _
          cases hpr : (getR K i).pair with
          | true =>
            obtain ⟨q1, q2, q3, q4⟩ := okA_at cok hkk hpr
            obtain ⟨c1, c2⟩ := hcl i (by omega) hn hpr
            have hXp : X = pairR (M.getD (getR K i).left.toNat 0) (M.getD (getR K i).right.toNat 0) := by rw [← hX, trimR_pair hpr]
            rw [W1_pairA hO2 (by simp) (by rw [eX, hXp]; rfl), eX, hXp]
            show W1 _ (M.getD (getR K i).left.toNat 0).toNat ++ W1 _ (M.getD (getR K i).right.toNat 0).toNat = _
            rw [← hXp, W1_app hO hO2 _ (H.pos _ q2 c1).2, W1_app hO hO2 _ (H.pos _ q4 c2).2, W1_pairA cok hkk hpr]
            have w1 := H.word _ q2 c1
            have w2 := H.word _ q4 c2
            show W1 O _ ++ W1 O _ = _
            rw [← w1, ← w2]
          | false =>
            have hXl : X = getR K i := by rw [← hX, trimR_let hpr]
            rw [W1_let (by rw [eX, hXl]; exact hpr), eX, hXl, W1_let hpr]
      · intro a ha
        rcases Nat.lt_or_ge a O.length with hlt | hge
        · obtain ⟨i, h1, h2, h3⟩ := H.from_ a hlt
          exact ⟨i, by omega, h2, by show ((M.set k (O.length : Int)).getD i 0).toNat = a; rw [hold i h1]; exact h3⟩
        · have ha' : a < (O ++ [X]).length := ha
          rw [List.length_append] at ha'
          have : a = O.length := by simp at ha'; omega
          subst this
          exact ⟨k, by omega, hn, by show ((M.set k (O.length : Int)).getD k 0).toNat = O.length; rw [hnew]; simp⟩
    · rw [if_neg hn]
      refine ⟨l2, ?_, H.ok, ?_, ?_⟩
      · intro i hi hni
        rcases Nat.lt_or_ge i k with hlt | hge
        · exact H.pos i hlt hni
        · have : i = k := by omega
          subst this; exact absurd hni hn
      · intro i hi hni
        rcases Nat.lt_or_ge i k with hlt | hge
        · exact H.word i hlt hni
        · have : i = k := by omega
          subst this; exact absurd hni hn
      · intro a ha
        obtain ⟨i, h1, h2, h3⟩ := H.from_ a ha
        exact ⟨i, by omega, h2, h3⟩
/-- A trimmed grammar is right, and has the same word. -/
theorem trimG_sem {xs : List GRule} {ls : List Int} (hl : lens xs = some ls) : ∃ ls', lens (trimG xs) = some ls' ∧ wordG (trimG xs) = wordG xs ∧ (0 < xs.length → 0 < (trimG xs).length) := by
  by_cases h0 : 0 < xs.length
  · have h := okAll_lens hl
    have C := canon_all h
    obtain ⟨K, S, hp⟩ : ∃ K S, canon xs = (K, S) := ⟨_, _, rfl⟩
    rw [hp] at C
    have l1 : K.length = xs.length := C.l1
    have cok : OkAll K := C.ok
    have hroot : 0 ≤ S.getD (xs.length - 1) 0 ∧ S.getD (xs.length - 1) 0 ≤ ((xs.length - 1 : Nat) : Int) := C.low (xs.length - 1) (by omega)
    obtain ⟨R, hR⟩ : ∃ R, (S.getD (xs.length - 1) 0).toNat = R := ⟨_, rfl⟩
    have hRl : R < xs.length := by omega
    have eN : needL xs = needDown K xs.length ((List.replicate xs.length false).set R true) := by
      unfold needL rootB; rw [hp]; show needDown K _ ((List.replicate xs.length false).set (S.getD (xs.length - 1) 0).toNat true) = _; rw [hR]
    have hbl : ((List.replicate xs.length false).set R true).length = K.length := by simp [l1]
    have hNR : (needL xs).getD R false = true := by rw [eN]; exact needDown_true _ (set_at (by simp; omega))
    have hmost : ∀ x, (needL xs).getD x false = true → x ≤ R := by
      rw [eN]
      refine needDown_most cok _ (by omega) (fun x hx => ?_)
      by_cases e : R = x
      · omega
      · rw [set_ne e] at hx
        rw [List.getD_eq_getElem?_getD, List.getElem?_replicate] at hx
        split at hx <;> simp at hx
    have hcl : ∀ x, x < xs.length → (needL xs).getD x false = true → (getR (canon xs).1 x).pair = true → (needL xs).getD (getR (canon xs).1 x).left.toNat false = true ∧ (needL xs).getD (getR (canon xs).1 x).right.toNat false = true := by
      rw [hp, eN]
      intro x hx h1 h2
      exact needDown_closed cok _ (by omega) hbl hx h1 h2
    have H := out_ok h hcl xs.length (Nat.le_refl _)
    rw [hp] at H
    have hw := canon_word h
    rw [hp] at hw
    -- the last rule is that of the root
    have hlast : ∀ k, R < k → k ≤ xs.length → (trimO xs k).1.length = (trimO xs (R + 1)).1.length ∧ (trimO xs k).2.getD R 0 = (trimO xs (R + 1)).2.getD R 0 := by
      intro k
      induction k with
      | zero => intro h; omega
      | succ k ih =>
        intro h1 h2
        rcases Nat.lt_or_ge R k with hlt | hge
        · have hnk : ¬ (needL xs).getD k false = true := fun e => by have := hmost k e; omega
          rw [trimO_succ]
          unfold outStep
          rw [if_neg hnk]
          exact ih hlt (by omega)
        · have : k = R := by omega
          subst this; exact ⟨rfl, rfl⟩
    obtain ⟨e1, e2⟩ := hlast xs.length hRl (Nat.le_refl _)
    have e3 : (trimO xs (R + 1)).1.length = (trimO xs R).1.length + 1 ∧ (trimO xs (R + 1)).2.getD R 0 = ((trimO xs R).1.length : Int) := by
      rw [trimO_succ]; unfold outStep; rw [if_pos hNR]
      refine ⟨by simp, ?_⟩
      show ((trimO xs R).2.set R _).getD R 0 = _
      rw [List.getD_eq_getElem?_getD, List.getElem?_set, if_pos rfl, if_pos (by rw [(trimO_len xs R).1]; exact hRl)]; rfl
    have hlen : (trimG xs).length = (trimO xs R).1.length + 1 := by rw [trimG, e1, e3.1]
    have hnum : ((trimO xs xs.length).2.getD R 0).toNat = (trimG xs).length - 1 := by rw [e2, e3.2, hlen]; simp
    have hword : W1 (trimG xs) ((trimG xs).length - 1) = W1 xs (xs.length - 1) := by
      rw [← hnum]
      have h1 : W1 (trimG xs) ((trimO xs xs.length).2.getD R 0).toNat = W1 K R := H.word R hRl hNR
      rw [h1]
      have h2 : W1 K R = W1 K (xs.length - 1) := by
        have hi : S.getD (xs.length - 1) 0 = ((K.idxOf (getR K (xs.length - 1)) : Nat) : Int) := C.idx _ (by omega)
        have hm : getR K (xs.length - 1) ∈ K := getR_mem (by omega)
        have hlt : K.idxOf (getR K (xs.length - 1)) < K.length := List.idxOf_lt_length_iff.2 hm
        have hRe : R = K.idxOf (getR K (xs.length - 1)) := by rw [← hR, hi]; simp
        refine W1_same cok (by omega) (by omega) ?_
        rw [hRe]
        exact (getR_some (List.getElem?_eq_getElem hlt)).trans (List.getElem_idxOf hlt)
      rw [h2]
      exact hw _ (by omega)
    have hmax : ∀ r, r < (trimG xs).length → ((W1 (trimG xs) r).length : Int) ≤ maxL := by
      intro r hr
      obtain ⟨i, h1, h2, h3⟩ := H.from_ r hr
      have h4 : W1 (trimG xs) ((trimO xs xs.length).2.getD i 0).toNat = W1 K i := H.word i h1 h2
      have h5 : W1 K i = W1 xs i := hw i h1
      rw [show r = ((trimO xs xs.length).2.getD i 0).toNat from h3.symm, h4, h5]
      exact lens_W1 hl h1
    obtain ⟨ls', hl'⟩ := lens_ofA H.ok hmax
    refine ⟨ls', hl', ?_, fun _ => by omega⟩
    rw [wordG_pos (by omega), wordG_pos h0]
    exact hword
  · have hx : xs = [] := List.eq_nil_of_length_eq_zero (by omega)
    subst hx
    exact ⟨[], rfl, rfl, fun h => absurd h (by simp)⟩
end Go.Proofs.Ytfapnipmgmpgaaa

namespace Go.Proofs.Ytfapnipmgmpgaaa
open Go.RowKit

theorem l02Raised_any (r : GRule) (n : Nat) (w : World) (hn : n ≤ 1099511627776) (hp : r.pair = true → -1099511627776 ≤ r.left ∧ r.left ≤ 1099511627776 ∧ -1099511627776 ≤ r.right ∧ r.right ≤ 1099511627776) :
    Calls Try.prog 130 #[.agg #[.string r.letter, .int .i64 r.left, .int .i64 r.right], .int .i64 n] w fun e w' => e = .returned (.agg #[.string (raiseR n r).letter, .int .i64 (raiseR n r).left, .int .i64 (raiseR n r).right]) ∧ Below w.heap.size w w' := by
  by_cases hpr : r.pair = true
  · obtain ⟨p1, p2, p3, p4⟩ := hp hpr
    have hemp : r.letter.toList.isEmpty = true := by rw [isEmpty_size]; exact hpr
    have e : raiseR n r = { letter := r.letter, left := r.left + n, right := r.right + n } := by rw [raiseR, if_pos hpr]
    rw [e]
    clear hpr e hp
    go_enter Try.func130, Try.ntmps130
    go_wp2
    exact bodyPost_ret (v := .agg #[.string r.letter, .int .i64 (r.left + n), .int .i64 (r.right + n)]) (by simp [results, Try.results130, go_sem]) rfl ⟨rfl, (by repeat (first | exact (Below.refl _ _) | (refine Below.alloc ?_ (by first | omega | (simp; done) | (simp; omega)) _) | refine below_drewN ?_ _ | refine Below.drew ?_))⟩
  · have hemp : r.letter.toList.isEmpty = false := by rw [isEmpty_size]; simpa [GRule.pair] using hpr
    have e : raiseR n r = r := by rw [raiseR, if_neg hpr]
    rw [e]
    clear hpr e hp
    go_enter Try.func130, Try.ntmps130
    go_wp2
    exact bodyPost_ret (v := .agg #[.string r.letter, .int .i64 r.left, .int .i64 r.right]) (by simp [results, Try.results130, go_sem]) rfl ⟨rfl, (by repeat (first | exact (Below.refl _ _) | (refine Below.alloc ?_ (by first | omega | (simp; done) | (simp; omega)) _) | refine below_drewN ?_ _ | refine Below.drew ?_))⟩

theorem l02Told_any (base : Nat) (v : Value) (xs : List GRule) (w : World) (h : OwnRules w base v xs) (hsm : SmallL xs) :
    Calls Try.prog 129 #[.agg #[v]] w (LimPost base xs w) := by
  have h1 := fun o o' => (h.sl.below (((Below.refl w.heap.size w).alloc (Nat.le_refl _) o).alloc (by simp) o')).le (B' := ((w.alloc o).alloc o').heap.size) (by simp; omega)
  have hv : v.ownBlock ≠ some (w.heap.size + 1) := fun e => by have := (World.ownsRow.lt h _ e).2; omega
  have H1 := Lib.hid h1
  have H := Lib.hid h
  have Hv := Lib.hid hv
  clear h1 hv
  obtain ⟨A, c, rfl, _⟩ := own_nil h
  clear h
  go_enter Try.func129, Try.ntmps129
  go_wp2_with fail
  refine (l02Ok_any _ _ _ _ _ (by simp [go_sem]) (by first | omega | (simp; done) | (simp; omega)) (H1.out _ _) hsm).mono ?_
  rintro e w1 ⟨rfl, hb1⟩
  obtain ⟨hc1, hf1⟩ := bcell hb1
  have hz1 : w.heap.size + 1 < w1.heap.size := by have := hb1.size; simp at this; omega
  have hc2 : w1.cell? ⟨w.heap.size + 1, 0, none⟩ = some (.slice none 0 0) := by rw [hc1 _ _ (by simp)]; simp [go_sem]
  have hf2 : w1.frozen? ⟨w.heap.size + 1, 0, none⟩ = false := by rw [hf1 _ _ (by simp)]; simp [go_sem]
  have hc3 : w1.cell? ⟨w.heap.size, 0, none⟩ = some (.slice A xs.length c) := by rw [hc1 _ _ (by simp; omega)]; simp [go_sem]
  have Hb1 := Lib.hid (((Below.refl w.heap.size w).alloc (Nat.le_refl _) (Obj.cells #[Value.slice A xs.length c] 32)).alloc (by simp) (Obj.cells #[Value.slice none 0 0] 32) |>.trans (hb1.mono (by simp; omega)))
  clear hc1 hf1 hb1
  by_cases hok : gramOk xs = true
  · have hok2 : (!gramOk xs) = false := by simp [hok]
    have Hok := Lib.hid hok
    clear hok
    go_wp2
    refine bodyPost_ret (v := .tuple #[.agg #[.slice A xs.length c], .int .i64 0]) (by simp [results, Try.results129, go_sem, hc2]) rfl ⟨?_, _, ?_, by rw [limCode, if_pos Hok.out]⟩
    · exact Hb1.out.setCell (by show w.heap.size ≤ w.heap.size + 1; omega) _
    · rw [limOut, if_pos Hok.out]
      refine own_keep (OwnRules.below H.out Hb1.out) fun g hg => Below.heap_setCell _ _ _ _ (fun e => Hv.out ?_)
      rw [hg, e]
  · have hok2 : (!gramOk xs) = true := by simp [hok]
    have Hok := Lib.hid hok
    clear hok
    go_wp2
    refine bodyPost_ret (v := .tuple #[.agg #[.slice none 0 0], .int .i64 3]) (by simp [results, Try.results129, go_sem, hc2]) rfl ⟨?_, _, ?_, by rw [limCode, if_neg Hok.out]⟩
    · exact Hb1.out.setCell (by show w.heap.size ≤ w.heap.size + 1; omega) _
    · rw [limOut, if_neg Hok.out]; exact World.ownsRow_nil _ _ _ _

theorem step_push_rule {W : World} {ops : Array Oper} {o : Oper} {a : Act} {K : Act → World → Prop} {Q : Exit → Act → World → Prop} {E : Prop} (hgd : o.guard = none) (s x : Operand)
    (ho : o.op = .call { callee := .builtin .append, args := #[s, x], argTypes := #[30, 30] }) {t : ByteArray} {p q : Int} {base : Nat} {v : Value} {l : List GRule}
    (hs : a.eval s = v) {N : Nat} (hx : a.eval x = .slice (some ⟨N, 0, none⟩) 1 1) (hN : N = W.heap.size) (hown : OwnRules W base v l) (hlen : l.length ≤ 1099511627775) (hbase : base ≤ W.heap.size)
    (h : ∀ v' w', OwnRules w' base v' (l ++ [⟨t, p, q⟩]) → (W.alloc (.cells #[.string t, .int .i64 p, .int .i64 q] 160)).grownBy w' v.ownBlock → Below base (W.alloc (.cells #[.string t, .int .i64 p, .int .i64 q] 160)) w' → K (a.put o.dst v') w') :
    if Region.wanted o (yielded ops a.tmps) = true then Oper.wp Try.prog o a (W.alloc (.cells #[.string t, .int .i64 p, .int .i64 q] 160)) K Q else E := by
  subst hN
  refine step_append_rules (ys := [⟨t, p, q⟩]) (S := fun b => b = W.heap.size) hgd s x ho hs hx (hown.alloc _) ⟨_, 1, rfl, Nat.le_refl _, by simp [maxLen], fun _ => ⟨W.heap.size, 0, rfl, rfl, fun k r hk => ⟨r.cells, rfl, fun j u hu => ?_⟩⟩⟩ (by simp; omega) (by simp; omega) h
  have hk0 : k = 0 := by
    have := (List.getElem?_eq_some_iff.1 hk).1
    simp at this; exact this
  subst hk0
  simp at hk
  subst hk
  have hc : (W.alloc (.cells #[.string t, .int .i64 p, .int .i64 q] 160)).cell? ⟨W.heap.size, j, none⟩ = (#[Value.string t, .int .i64 p, .int .i64 q] : Array Value)[j]? := cell_of_row _ _ _ _ 160 (0, 0) (heap_alloc_new W _)
  simp only [Nat.zero_mul, Nat.zero_add]
  rw [hc]
  simpa [GRule.cells] using hu

theorem Boxed.mk' {w : World} {B : Nat} {t : TypeId} {v : Value} (h : w.heap[B]? = some (.cells #[v] t (0, 0))) : Boxed w.drew B t v := h
theorem Boxed.up {w w' : World} {B N : Nat} {t : TypeId} {v : Value} (h : Boxed w B t v) (hb : Below N w w') (hlt : B < N) : Boxed w' B t v := (hb.block B hlt).trans h
theorem Boxed.grown {w w' : World} {B base e s n : Nat} {t : TypeId} {v : Value} {xs : List Value} {o : Obj} (h : Boxed w B t v) (hte : t ≠ e) (own : w.ownsRow base e s v n xs) (hg : (w.alloc o).grownBy w' v.ownBlock) : Boxed w' B t v := (h.alloc o).kept hg (h.not_row hte own)

set_option maxRecDepth 100000 in
set_option maxHeartbeats 4000000 in
theorem l02Join_any (b o b' o' : Nat) (v u : Value) (xs ys : List GRule) (w : World) (hpt : w.cell? ⟨b, o, none⟩ = some v) (hpt' : w.cell? ⟨b', o', none⟩ = some u) (hbl : b < w.heap.size) (hbl' : b' < w.heap.size)
    (h : Sl RuleE w w.heap.size v xs) (h' : Sl RuleE w w.heap.size u ys) (hn : xs.length ≤ 1048576) (hn' : ys.length ≤ 1048576) (hp : SmallP ys) :
    Calls Try.prog 71 #[.pointer (some ⟨b, o, none⟩), .pointer (some ⟨b', o', none⟩)] w (GOwn (joinG xs ys) w) := by
  have h1 := fun o => (h.below ((Below.refl w.heap.size w).alloc (Nat.le_refl _) o)).le (B' := (w.alloc o).heap.size) (by simp)
  have h2 := fun o => (h'.below ((Below.refl w.heap.size w).alloc (Nat.le_refl _) o)).le (B' := (w.alloc o).heap.size) (by simp)
  have H1 := Lib.hid h1
  have H2 := Lib.hid h2
  clear h1 h2
  obtain ⟨A, c, rfl, hc, hm, hrow⟩ := h
  obtain ⟨A', c', rfl, hc', hm', hrow'⟩ := h'
  clear hm hm' hrow
  by_cases h0 : xs.length = 0
  · have hj : joinG xs ys = ys := by rw [joinG, if_pos h0]
    have Hj := Lib.hid hj
    have hb0 : ((xs.length : Int) == 0) = true := by simp [h0]
    have H0 := Lib.hid h0
    clear hj h0
    go_enter Try.func71, Try.ntmps71
    go_wp2_with fail
    refine (l02Own_any _ _ _ _ _ (by simpa [go_sem, hbl'] using hpt') (by first | omega | (simp; done) | (simp; omega)) (H2.out _) (by omega)).mono ?_
    rintro e w1 ⟨v1, rfl, own1, hb1⟩
    obtain ⟨A1, c1, rfl, _⟩ := own_nil own1
    obtain ⟨hc1, hf1⟩ := bcell hb1
    have hz1 : w.heap.size + 1 ≤ w1.heap.size := by have := hb1.size; simp at this; omega
    have Hown := Lib.hid own1
    have Hb1 := Lib.hid hb1
    clear own1 hb1
    go_wp2
    refine bodyPost_ret (v := .agg #[.slice A1 ys.length c1]) (by simp [results, Try.results71, go_sem, hc1]) rfl ⟨?_, _, ?_, rfl⟩
    · exact (((Below.refl _ _).alloc (Nat.le_refl _) _).trans (Hb1.out.mono (by simp))).setCell (by show w.heap.size ≤ w.heap.size; omega) _
    · rw [Hj.out]
      have h4 : w1.ownsRow (w.heap.size + 1) 160 3 (.slice A1 ys.length c1) ys.length (ys.flatMap GRule.cells) := ownsRow_more Hown.out (by simp)
      exact ownsRow_more (ownsRow_setCell_below h4 (by show w.heap.size < w.heap.size + 1; omega) _) (by omega)
  · have hb0 : ((xs.length : Int) == 0) = false := by rw [beq_eq_false_iff_ne]; omega
    by_cases h0' : ys.length = 0
    · have hj : joinG xs ys = xs := by rw [joinG, if_neg h0, if_pos h0']
      have Hj := Lib.hid hj
      have hb0' : ((ys.length : Int) == 0) = true := by simp [h0']
      have H0 := Lib.hid h0
      have H0' := Lib.hid h0'
      clear hj h0 h0'
      go_enter Try.func71, Try.ntmps71
      go_wp2_with fail
      refine (l02Own_any _ _ _ _ _ (by simpa [go_sem, hbl] using hpt) (by first | omega | (simp; done) | (simp; omega)) (H1.out _) (by omega)).mono ?_
      rintro e w1 ⟨v1, rfl, own1, hb1⟩
      obtain ⟨A1, c1, rfl, _⟩ := own_nil own1
      obtain ⟨hc1, hf1⟩ := bcell hb1
      have hz1 : w.heap.size + 1 ≤ w1.heap.size := by have := hb1.size; simp at this; omega
      have hpt1 : w1.cell? ⟨b, o, none⟩ = some (.slice A xs.length c) := by rw [hb1.cell (by first | omega | (simp; done) | (simp; omega))]; simpa [go_sem, hbl] using hpt
      have hpt1' : w1.cell? ⟨b', o', none⟩ = some (.slice A' ys.length c') := by rw [hb1.cell (by first | omega | (simp; done) | (simp; omega))]; simpa [go_sem, hbl'] using hpt'
      have hcr1 : w1.cell? ⟨w.heap.size, 0, none⟩ = some (.slice none 0 0) := by rw [hc1 _ _ (by simp)]; simp [go_sem]
      have hfr1 : w1.frozen? ⟨w.heap.size, 0, none⟩ = false := by rw [hf1 _ _ (by simp)]; simp [go_sem]
      have hlb : b < w1.heap.size := by omega
      have hlb' : b' < w1.heap.size := by omega
      have hlr : w.heap.size < w1.heap.size := by omega
      have Hown := Lib.hid own1
      have Hb1 := Lib.hid hb1
      clear own1 hb1 hc1 hf1
      go_wp2
      refine bodyPost_ret (v := .agg #[.slice A1 xs.length c1]) (by simp [results, Try.results71, go_sem, hcr1, hlr]) rfl ⟨?_, _, ?_, rfl⟩
      · refine Below.alloc (Below.setCell (((Below.refl _ _).alloc (Nat.le_refl _) _).trans (Hb1.out.mono (by simp))) ?_ _) ?_ _
        · exact Nat.le_refl _
        · simp; omega
      · rw [Hj.out]
        have h4 : w1.ownsRow (w.heap.size + 1) 160 3 (.slice A1 xs.length c1) xs.length (xs.flatMap GRule.cells) := ownsRow_more Hown.out (by simp)
        exact ownsRow_more (World.ownsRow.alloc (ownsRow_setCell_below (a := ⟨w.heap.size, 0, none⟩) h4 (by show w.heap.size < w.heap.size + 1; omega) _) _) (by omega)
    · have hb0' : ((ys.length : Int) == 0) = false := by rw [beq_eq_false_iff_ne]; omega
      have hj : joinG xs ys = xs ++ ys.map (raiseR xs.length) ++ [pairR ((xs.length : Int) - 1) ((xs.length : Int) + ys.length - 1)] := by rw [joinG, if_neg h0, if_neg h0']
      have Hj := Lib.hid hj
      have hx1 : 1 ≤ xs.length := by omega
      have hy1 : 1 ≤ ys.length := by omega
      have Hp := Lib.hid hp
      clear hj h0 h0' hp
      go_enter Try.func71, Try.ntmps71
      go_wp2_with fail
      refine (l02Own_any _ _ _ _ _ (by simpa [go_sem, hbl] using hpt) (by first | omega | (simp; done) | (simp; omega)) (H1.out _) (by omega)).mono ?_
      rintro e w1 ⟨v1, rfl, own1, hb1⟩
      have z1 : w.heap.size + 1 ≤ w1.heap.size := by have := hb1.size; simp at this; omega
      have Hb1 : Hid (Below (w.heap.size + 1) (w.alloc (Obj.cells #[Value.slice none 0 0] 32)) w1) := hb1.mono (by simp)
      have hpt1 : w1.cell? ⟨b, o, none⟩ = some (.slice A xs.length c) := by rw [hb1.cell (by first | omega | (simp; done) | (simp; omega))]; simpa [go_sem, hbl] using hpt
      have hpt1' : w1.cell? ⟨b', o', none⟩ = some (.slice A' ys.length c') := by rw [hb1.cell (by first | omega | (simp; done) | (simp; omega))]; simpa [go_sem, hbl'] using hpt'
      have own1' : OwnRules w1 (w.heap.size + 1) v1 xs := ownsRow_more own1 (by simp)
      obtain ⟨A1, c1, rfl, _⟩ := own_nil own1'
      have Hown1 := Lib.hid own1'
      have hlb : b < w1.heap.size := by omega
      have hlb' : b' < w1.heap.size := by omega
      have Hrow := Lib.hid hrow'
      clear own1 own1' hb1 hrow'
      go_wp2_with fail
      go_loopw [7] (fun i wr => ∃ (k : Nat) (vo : Value), k ≤ ys.length ∧ i = .int .i64 k ∧ Below (w.heap.size + 1) (w.alloc (Obj.cells #[Value.slice none 0 0] 32)) wr ∧ wr.heap[w1.heap.size]? = some (Obj.cells #[vo] 32 (0, 0)) ∧ OwnRules wr (w.heap.size + 1) vo (xs ++ (ys.take k).map (raiseR xs.length))) (fun i _ => ys.length - (intOf i).toNat)
      case atStart => exact ⟨0, _, Nat.zero_le _, rfl, Hb1.out.alloc (by omega) _, alloc_heap_last _ _, by have := Hown1.out.alloc (Obj.cells #[Value.slice A1 xs.length c1] 32); simpa using this⟩
      case round =>
        obtain ⟨k, vo, hk, rfl, hb, hbox, hown⟩ := hrel
        have hcb : wr.cell? ⟨w1.heap.size, 0, none⟩ = some vo := by simp [World.cell?, hbox]
        have hfb : wr.frozen? ⟨w1.heap.size, 0, none⟩ = false := by simp [World.frozen?, hbox]
        have hszr : w1.heap.size < wr.heap.size := (Array.getElem?_eq_some_iff.1 hbox).1
        have hptr : wr.cell? ⟨b, o, none⟩ = some (.slice A xs.length c) := by rw [hb.cell (p := ⟨b, o, none⟩) (by show b < w.heap.size + 1; omega)]; simpa [go_sem, hbl] using hpt
        have hptr' : wr.cell? ⟨b', o', none⟩ = some (.slice A' ys.length c') := by rw [hb.cell (p := ⟨b', o', none⟩) (by show b' < w.heap.size + 1; omega)]; simpa [go_sem, hbl'] using hpt'
        have Hbox := Lib.hid hbox
        have Hown := Lib.hid hown
        have Hb := Lib.hid hb
        by_cases hlt : k < ys.length
        · obtain ⟨b2, o2, rfl, hbl2, hcell⟩ := Hrow.out.rule hlt
          obtain ⟨r, hr⟩ : ∃ x, ys[k]? = some x := ⟨_, List.getElem?_eq_getElem hlt⟩
          obtain ⟨g0, g1, g2⟩ := hcell k r hr
          have hbw : Below w.heap.size w wr := ((Below.refl _ _).alloc (Nat.le_refl _) _).trans (hb.mono (by omega))
          have hc0 := (hbw.cell (p := ⟨b2, o2 + k * 3, none⟩) hbl2).trans g0
          have hc1 := (hbw.cell (p := ⟨b2, o2 + k * 3 + 1, none⟩) hbl2).trans g1
          have hc2 := (hbw.cell (p := ⟨b2, o2 + k * 3 + 2, none⟩) hbl2).trans g2
          have hi : (k : Int) < (ys.length : Int) := by omega
          have hpr := Hp.out r (List.mem_of_getElem? hr)
          have Hpr := Lib.hid hpr
          have Hr := Lib.hid hr
          have hb2l : b2 < wr.heap.size := by omega
          have hbl3 : b' < wr.heap.size := by omega
          have hbl4 : b < wr.heap.size := by omega
          obtain ⟨L, hL⟩ : ∃ L, L = xs ++ (ys.take k).map (raiseR xs.length) := ⟨_, rfl⟩
          rw [← hL] at hown
          have hlk : L.length = xs.length + k := by rw [hL]; simp; omega
          have Hll : Hid (L.length ≤ 1099511627775) := by rw [Hid]; omega
          have Hnx : Hid (xs ++ (ys.take (k + 1)).map (raiseR xs.length) = L ++ [raiseR xs.length r]) := by rw [Hid, List.take_add_one, hr, List.map_append, ← List.append_assoc, ← hL]; rfl
          have Hown := Lib.hid hown
          clear hbox hown hb hcell g0 g1 g2 hbw hr hpr hpt hpt' hpt1 hpt1' hL hlk
          go_wp2_with fail
          go_region_law (first
            | (refine step_push_rule (base := w.heap.size + 1) (by rfl) _ _ (by rfl) (by rfl) (by first | rfl | simp) rfl (OwnRules.below Hown.out.drew hb2) Hll.out (by omega) ?_; intro v3 w3 own3 hg3 hb3; have bx3 : Boxed w3 w1.heap.size 32 vo := Boxed.grown (Boxed.up (Boxed.mk' Hbox.out) hb2 hszr) (by decide) (OwnRules.below Hown.out.drew hb2) hg3; obtain ⟨A3, c3, rfl, _⟩ := own_nil own3; have hcb3 := bx3.cell; have hfb3 := bx3.frozen)
            | (go_simp; go_at_call 130; refine (l02Raised_any r xs.length _ (by omega) Hpr.out).mono ?_; rintro e w2 ⟨rfl, hb2⟩; obtain ⟨hcc2, hff2⟩ := bcell hb2; have bx2 := Boxed.up (Boxed.mk' Hbox.out) hb2 hszr; have hcb2 := bx2.cell; have hfb2 := bx2.frozen; have hlb2 := bx2.lt; have hlb3 : b < w2.heap.size := (by omega); have hlb3' : b' < w2.heap.size := (by omega); have hlb4 : b2 < w2.heap.size := (by omega)))
          all_goals
            clear hcc2 hff2 hcb2 hfb2
            go_wp2
            go_roundw
            case rel =>
              refine ⟨k + 1, _, by omega, by go_num, ?_, Boxed.set _ bx3, ?_⟩
              · exact (((Below.drew Hb.out).trans (hb2.mono (by show w.heap.size + 1 ≤ wr.heap.size; omega))).alloc (by omega) _ |>.trans hb3).setCell (by show w.heap.size + 1 ≤ w1.heap.size; omega) _
              · have e9 : (L ++ [raiseR xs.length r]).length = L.length + 1 := by simp
                have own9 : OwnRules w3 (w.heap.size + 1) (.slice A3 (L.length + 1) c3) (L ++ [raiseR xs.length r]) := by rw [← e9]; exact own3
                rw [Hnx.out]; exact ownsRow_setCell_other (a := ⟨w1.heap.size, 0, none⟩) own9 (bx3.not_row (by decide) own9).symm _
            case measure => simp [intOf]; omega
        · have hkn : k = ys.length := by omega
          subst hkn
          rw [List.take_length] at hown
          obtain ⟨L, hL⟩ : ∃ L, L = xs ++ ys.map (raiseR xs.length) := ⟨_, rfl⟩
          rw [← hL] at hown
          have hlk : L.length = xs.length + ys.length := by rw [hL]; simp
          have Hll : Hid (L.length ≤ 1099511627775) := by rw [Hid]; omega
          have HL := Lib.hid hL
          have Hown := Lib.hid hown
          have hw1 : IntKind.i64.wrap ((xs.length : Int) - 1) = (xs.length : Int) - 1 := IntWalk.i64_in _ (by omega)
          have hw2 : IntKind.i64.wrap ((xs.length : Int) + ys.length) = (xs.length : Int) + ys.length := IntWalk.i64_in _ (by omega)
          have hw3 : IntKind.i64.wrap ((xs.length : Int) + ys.length - 1) = (xs.length : Int) + ys.length - 1 := IntWalk.i64_in _ (by omega)
          clear hbox hown hb hpt hpt' hpt1 hpt1' hL
          go_wp2_with fail
          go_region_law (first
            | (refine step_push_rule (base := w.heap.size + 1) (by rfl) _ _ (by rfl) (by rfl) (by first | rfl | simp) rfl Hown.out.drew Hll.out (by show w.heap.size + 1 ≤ wr.heap.size; omega) ?_; intro v3 w3 own3 hg3 hb3; have bx3 : Boxed w3 w1.heap.size 32 vo := Boxed.grown (Boxed.mk' Hbox.out) (by decide) Hown.out.drew hg3; obtain ⟨A3, c3, rfl, _⟩ := own_nil own3; have hcb3 := bx3.cell; have hfb3 := bx3.frozen; have hl3 := bx3.lt))
          all_goals
            try rw [hw2] at own3
            try rw [hw1, hw3] at own3
            have hb9 := (((Below.drew Hb.out)).alloc (by show w.heap.size + 1 ≤ wr.heap.size; omega) _).trans hb3
            obtain ⟨hc9, hf9⟩ := bcell hb9
            have hcr : w3.cell? ⟨w.heap.size, 0, none⟩ = some (.slice none 0 0) := by rw [hc9 _ _ (by omega)]; simp [go_sem]
            have hfr : w3.frozen? ⟨w.heap.size, 0, none⟩ = false := by rw [hf9 _ _ (by omega)]; simp [go_sem]
            have e9 : (L ++ [pairR ((xs.length : Int) - 1) ((xs.length : Int) + ys.length - 1)]).length = xs.length + ys.length + 1 := by simp [hlk]
            have Own9 : Hid (OwnRules w3 (w.heap.size + 1) (.slice A3 (xs.length + ys.length + 1) c3) (L ++ [pairR ((xs.length : Int) - 1) ((xs.length : Int) + ys.length - 1)])) := by rw [Hid, ← e9]; exact own3
            have Hb9 := Lib.hid hb9
            have Hbx3 := Lib.hid bx3
            have hne : w.heap.size ≠ w1.heap.size := by omega
            have hl9 : w.heap.size < w3.heap.size := by omega
            clear hc9 hf9 hb9 own3 hg3 hb3 bx3 hlk
            go_wp2
            refine bodyPost_ret (v := .agg #[.slice A3 (xs.length + ys.length + 1) c3]) (by simp [results, Try.results71, go_sem, hcr]) rfl ⟨?_, _, ?_, rfl⟩
            · exact ((((Below.refl _ _).alloc (Nat.le_refl _) _).trans (Hb9.out.mono (by omega))).setCell (by show w.heap.size ≤ w1.heap.size; omega) _).setCell (by show w.heap.size ≤ w.heap.size; omega) _
            · rw [Hj.out, ← HL.out]
              unfold OwnRules
              rw [e9]
              have h5 := Own9.out
              unfold OwnRules at h5
              rw [e9] at h5
              have h6 := ownsRow_setCell_other (a := ⟨w1.heap.size, 0, none⟩) h5 (Hbx3.out.not_row (by decide) h5).symm (.slice A3 (xs.length + ys.length + 1) c3)
              have h7 := ownsRow_setCell_below (a := ⟨w.heap.size, 0, none⟩) h6 (by show w.heap.size < w.heap.size + 1; omega) (.slice A3 (xs.length + ys.length + 1) c3)
              exact ownsRow_more h7 (by omega)
end Go.Proofs.Ytfapnipmgmpgaaa

namespace Go.Proofs
open Go.Shelf Go.RowKit
end Go.Proofs

namespace Go.Proofs.Ytfapnipmgmpgaaa
open Go.RowKit

end Go.Proofs.Ytfapnipmgmpgaaa

namespace Go.Proofs.Ytfapnipmgmpgaaa
open Go.RowKit

end Go.Proofs.Ytfapnipmgmpgaaa

namespace Go.Proofs.Ytfapnipmgmpgaaa
open Go.RowKit

/-- An iterator over a string lies in a block. -/
def Iter (W : World) (K : Nat) (s : ByteArray) (pos : Nat) : Prop := W.heap[K]? = some (.stringIter s pos)
theorem Iter.lt {W : World} {K : Nat} {s : ByteArray} {pos : Nat} (h : Iter W K s pos) : K < W.heap.size := (Array.getElem?_eq_some_iff.1 h).1
theorem Iter.up {w w' : World} {K N : Nat} {s : ByteArray} {pos : Nat} (h : Iter w K s pos) (hb : Below N w w') (hlt : K < N) : Iter w' K s pos := (hb.block K hlt).trans h
theorem Iter.not_row {w : World} {K : Nat} {s : ByteArray} {pos : Nat} (h : Iter w K s pos) {base e sz n : Nat} {v : Value} {xs : List Value} (own : w.ownsRow base e sz v n xs) : some K ≠ v.ownBlock := by
  intro he
  rcases own.2 with ⟨hn, _⟩ | ⟨g, cap, cur, rfl, hb, hgg, rest⟩
  · rw [hn] at he; cases he
  · have : g = K := by
      have : some g = some K := he.symm ▸ rfl
      injection this
    subst this
    rw [h] at hgg; cases hgg
theorem Iter.grown {w w' : World} {K base e sz n : Nat} {s : ByteArray} {pos : Nat} {v : Value} {xs : List Value} {o : Obj} (h : Iter w K s pos) (own : w.ownsRow base e sz v n xs) (hg : (w.alloc o).grownBy w' v.ownBlock) : Iter w' K s pos := by
  have h1 : Iter (w.alloc o) K s pos := h.up ((Below.refl w.heap.size w).alloc (Nat.le_refl _) o) h.lt
  exact (hg.block K h1.lt (h.not_row own)).trans h1
theorem Iter.set {w : World} {K B : Nat} {s : ByteArray} {pos : Nat} (h : Iter w K s pos) (hne : K ≠ B) (v : Value) : Iter (w.setCell ⟨B, 0, none⟩ v) K s pos := (heap_setCell_other w ⟨B, 0, none⟩ K v hne).trans h

end Go.Proofs.Ytfapnipmgmpgaaa

namespace Go.Proofs.Ytfapnipmgmpgaaa
open Go.RowKit

/-- The length of the word of a grammar. -/
def gramLen (xs : List GRule) : Int := match lens xs with | some ls => lastI ls | none => 0
theorem gramLen_of {xs : List GRule} {ls : List Int} (h : lens xs = some ls) : gramLen xs = lastI ls := by simp [gramLen, h]
theorem lastI_bounds {xs : List GRule} {ls : List Int} (h : lens xs = some ls) : 0 ≤ lastI ls ∧ lastI ls ≤ 1000000000000000 := by
  have hll := lens_length h
  unfold lastI
  by_cases h0 : xs.length = 0
  · have : ls = [] := List.eq_nil_of_length_eq_zero (by omega)
    subst this; simp
  · have := lens_pos' h (r := ls.length - 1) (by omega)
    omega
theorem gramLen_bounds (xs : List GRule) : 0 ≤ gramLen xs ∧ gramLen xs ≤ 1000000000000000 := by
  unfold gramLen
  split
  · rename_i ls h; exact lastI_bounds h
  · omega

set_option maxRecDepth 100000 in
theorem l02Length_any (b o : Nat) (v : Value) (xs : List GRule) (ls : List Int) (w : World) (hl : lens xs = some ls) (hp : w.cell? ⟨b, o, none⟩ = some v) (hbl : b < w.heap.size) (h : Sl RuleE w w.heap.size v xs) (hsm : SmallL xs) (hn : xs.length ≤ 1099511627776) :
    Calls Try.prog 47 #[.pointer (some ⟨b, o, none⟩)] w fun e w' => e = .returned (.int .i64 (lastI ls)) ∧ Below w.heap.size w w' := by
  have Hsl := Lib.hid h
  have Hl := Lib.hid hl
  clear h hl
  go_enter Try.func47, Try.ntmps47
  go_wp2_with fail
  refine (l02Sizes_any _ _ _ _ _ hp hbl Hsl.out hsm hn).mono ?_
  rintro e w1 ⟨hb, (⟨ls', v1, h1, rfl, h2⟩ | ⟨h1, _⟩)⟩
  · have e1 : ls' = ls := by rw [Hl.out] at h1; injection h1 with h1; exact h1.symm
    subst e1
    have HB := Lib.hid hb
    have hsl := h2.sl
    obtain ⟨A, c, rfl, hc, hm, hrow⟩ := hsl
    unfold maxLen at hm
    clear h1 h2 hb
    by_cases h0 : ls'.length = 0
    · have hl : ls' = [] := List.eq_nil_of_length_eq_zero h0
      subst hl
      clear hrow
      go_wp2_with fail
      go_ret
      exact ⟨rfl, HB.out⟩
    · obtain ⟨b, o, rfl, hbl, hcell⟩ := hrow.int (k := 0) (by omega)
      have hc0 := hcell (ls'.length - 1) (by omega)
      have g0 : ((ls'.length : Int) == 0) = false := by rw [beq_eq_false_iff_ne]; omega
      have hk : ((ls'.length : Int) - 1).toNat = ls'.length - 1 := by omega
      have hl : 0 ≤ (ls'.length : Int) - 1 := by omega
      have hwr : IntKind.i64.wrap ((ls'.length : Int) - 1) = (ls'.length : Int) - 1 := IntWalk.i64_in _ (by omega)
      obtain ⟨x, hx⟩ : ∃ x, ls'.getD (ls'.length - 1) 0 = x := ⟨_, rfl⟩
      have Hx := Lib.hid hx
      rw [hx] at hc0
      clear hcell hx hrow
      go_wp2_with fail
      go_ret
      exact ⟨ret_int (by rw [lastI, Hx.out]), HB.out⟩
  · rw [Hl.out] at h1; cases h1

end Go.Proofs.Ytfapnipmgmpgaaa

namespace Go.Proofs.Ytfapnipmgmpgaaa

theorem lens_app (xs ys : List GRule) : lens (xs ++ ys) = ys.foldl lensStep (lens xs) := by simp [lens, List.foldl_append]
/-- Rules that are right are right up to each place. -/
theorem lens_pre {xs ys : List GRule} {l : List Int} (h : lens (xs ++ ys) = some l) : ∃ l1 t, lens xs = some l1 ∧ l = l1 ++ t := by
  rw [lens_app] at h
  cases hx : lens xs with
  | none => rw [hx, lens_none] at h; cases h
  | some l1 =>
    rw [hx] at h
    suffices H : ∀ (ys : List GRule) (a o : List Int), ys.foldl lensStep (some a) = some o → ∃ t, o = a ++ t by
      obtain ⟨t, ht⟩ := H ys l1 l h
      exact ⟨l1, t, rfl, ht⟩
    intro ys
    induction ys with
    | nil => intro a o h; simp at h; exact ⟨[], by simp [h]⟩
    | cons y ys ih =>
      intro a o h
      rw [List.foldl_cons] at h
      cases hs : lensStep (some a) y with
      | none => rw [hs, lens_none] at h; cases h
      | some b =>
        rw [hs] at h
        obtain ⟨t, rfl⟩ := ih b o h
        simp only [lensStep, Option.bind_some] at hs
        split at hs
        · cases hs; exact ⟨_, by rw [List.append_assoc]⟩
        · cases hs
theorem getR_app {xs ys : List GRule} {r : Nat} (h : r < xs.length) : getR (xs ++ ys) r = getR xs r := by
  unfold getR; rw [List.getD_eq_getElem?_getD, List.getElem?_append_left h, List.getD_eq_getElem?_getD]
theorem wordR_app {xs ys : List GRule} {ls : List Int} (h : lens xs = some ls) : ∀ (f r : Nat), r < xs.length → wordR (xs ++ ys) f r = wordR xs f r := by
  intro f
  induction f with
  | zero => intro r _; rfl
  | succ f ih =>
    intro r hr
    rw [wordR, wordR, getR_app hr]
    cases hp : (getR xs r).pair with
    | false => rfl
    | true =>
      obtain ⟨q1, q2, q3, q4, q5⟩ := lens_pair h hr hp
      rw [if_pos rfl, if_pos rfl, ih _ (by omega), ih _ (by omega)]
theorem W1_appL {xs ys : List GRule} {ls : List Int} (h : lens xs = some ls) {r : Nat} (hr : r < xs.length) : W1 (xs ++ ys) r = W1 xs r := wordR_app h _ _ hr
theorem getR_new (xs : List GRule) (x : GRule) : getR (xs ++ [x]) xs.length = x := by
  unfold getR; rw [List.getD_eq_getElem?_getD, List.getElem?_append_right (Nat.le_refl _), Nat.sub_self]; rfl
theorem W1_snoc {xs : List GRule} {l : List Int} {a b : Nat} (h : lens (xs ++ [pairR a b]) = some l) (ha : a < xs.length) (hb : b < xs.length) : W1 (xs ++ [pairR a b]) xs.length = W1 xs a ++ W1 xs b := by
  obtain ⟨l1, t, h1, _⟩ := lens_pre h
  have hp : (getR (xs ++ [pairR a b]) xs.length).pair = true := by rw [getR_new]; exact pairR_pair _ _
  rw [W1_pair h (by simp) hp, getR_new]
  show W1 (xs ++ [pairR a b]) (Int.toNat (a : Int)) ++ W1 (xs ++ [pairR a b]) (Int.toNat (b : Int)) = _
  rw [Int.toNat_natCast, Int.toNat_natCast, W1_appL h1 ha, W1_appL h1 hb]
theorem lens_snoc {xs : List GRule} {ls : List Int} {a b : Nat} (h : lens xs = some ls) (ha : a < xs.length) (hb : b < xs.length) (hm : ls.getD a 0 + ls.getD b 0 ≤ maxL) : lens (xs ++ [pairR a b]) = some (ls ++ [ls.getD a 0 + ls.getD b 0]) := by
  rw [lens_app, h]
  have hl := lens_length h
  have hr : ruleLen ls (pairR a b) = ls.getD a 0 + ls.getD b 0 := by
    unfold ruleLen
    rw [if_pos (pairR_pair _ _)]
    show ls.getD (Int.toNat (a : Int)) 0 + ls.getD (Int.toNat (b : Int)) 0 = _
    rw [Int.toNat_natCast, Int.toNat_natCast]
  simp only [List.foldl_cons, List.foldl_nil, lensStep, Option.bind_some]
  rw [hr, if_pos ⟨okRule_pair ⟨by omega, by omega⟩ ⟨by omega, by omega⟩, hm⟩]
/-- Joining one rule behind another. -/
theorem join_word {xs : List GRule} {ls : List Int} (h : lens xs = some ls) : ∀ (cs : List Nat) (L : List GRule) (l0 : List Int) (t : Nat) (w : List UInt8), lens L = some l0 → (∃ y, L = xs ++ y) → t < L.length → W1 L t = w → (∀ c ∈ cs, c < xs.length) →
    ((w ++ cs.flatMap (W1 xs)).length : Int) ≤ maxL → ∃ (l1 : List Int) (T : Nat), lens (cs.foldl joinStep (L, (t : Int))).1 = some l1 ∧ (cs.foldl joinStep (L, (t : Int))).2 = (T : Int) ∧ T < (cs.foldl joinStep (L, (t : Int))).1.length ∧ W1 (cs.foldl joinStep (L, (t : Int))).1 T = w ++ cs.flatMap (W1 xs) ∧ (cs ≠ [] → T = (cs.foldl joinStep (L, (t : Int))).1.length - 1) := by
  intro cs
  induction cs with
  | nil => intro L l0 t w h1 _ ht hw _ _; exact ⟨l0, t, h1, rfl, ht, by simpa using hw, fun h => absurd rfl h⟩
  | cons c cs ih =>
    intro L l0 t w h1 hy ht hw hc hm
    obtain ⟨y, rfl⟩ := hy
    have hcl : c < xs.length := hc c (by simp)
    have hcL : c < (xs ++ y).length := by simp; omega
    have hwc : W1 (xs ++ y) c = W1 xs c := W1_appL h hcl
    have e1 := W1_len h1 t ht
    have e2 := W1_len h1 c hcL
    rw [hw] at e1
    rw [hwc] at e2
    rw [List.flatMap_cons, ← List.append_assoc] at hm
    have hsum : l0.getD t 0 + l0.getD c 0 ≤ maxL := by
      rw [List.length_append, List.length_append] at hm
      omega
    have h2 := lens_snoc h1 ht hcL hsum
    have hw2 := W1_snoc h2 ht hcL
    rw [hw, hwc] at hw2
    obtain ⟨l1, T, k1, k2, k3, k4, k5⟩ := ih ((xs ++ y) ++ [pairR t c]) _ (xs ++ y).length (w ++ W1 xs c) h2 ⟨y ++ [pairR t c], by rw [List.append_assoc]⟩ (by simp) hw2 (fun d hd => hc d (by simp [hd])) hm
    have e : (c :: cs).foldl joinStep (xs ++ y, (t : Int)) = cs.foldl joinStep ((xs ++ y) ++ [pairR t c], (((xs ++ y).length : Nat) : Int)) := rfl
    rw [e]
    refine ⟨l1, T, k1, k2, k3, by rw [k4, List.flatMap_cons, List.append_assoc], fun _ => ?_⟩
    by_cases hcs : cs = []
    · subst hcs
      have : T = (xs ++ y).length := by
        have h3 : (((xs ++ y).length : Nat) : Int) = (T : Int) := k2
        omega
      rw [this]; simp
    · exact k5 hcs
theorem cutG_word {xs : List GRule} {ls : List Int} (h : lens xs = some ls) (cs : List Nat) (hc : ∀ c ∈ cs, c < xs.length) (hm : ((cs.flatMap (W1 xs)).length : Int) ≤ maxL) : ∃ l1, lens (cutG xs cs) = some l1 ∧ wordG (cutG xs cs) = cs.flatMap (W1 xs) := by
  match cs with
  | [] => exact ⟨[], rfl, rfl⟩
  | [c] =>
    have hcl : c < xs.length := hc c (by simp)
    have hx : xs.take (c + 1) ++ xs.drop (c + 1) = xs := List.take_append_drop _ _
    obtain ⟨l1, t, h1, _⟩ := lens_pre (xs := xs.take (c + 1)) (ys := xs.drop (c + 1)) (by rw [hx]; exact h)
    refine ⟨l1, h1, ?_⟩
    show wordG (xs.take (c + 1)) = _
    have hl : (xs.take (c + 1)).length = c + 1 := by rw [List.length_take]; omega
    rw [wordG_pos (by omega), hl, List.flatMap_cons, List.flatMap_nil, List.append_nil]
    have := W1_appL (ys := xs.drop (c + 1)) h1 (r := c) (by omega)
    rw [hx] at this
    rw [this]; rfl
  | c :: d :: cs =>
    obtain ⟨l1, T, k1, k2, k3, k4, k5⟩ := join_word h (d :: cs) xs ls c (W1 xs c) h ⟨[], by simp⟩ (hc c (by simp)) rfl (fun x hx => hc x (by simp at hx; simp; exact .inr hx)) (by simpa using hm)
    refine ⟨l1, k1, ?_⟩
    have hT := k5 (by simp)
    show wordG ((d :: cs).foldl joinStep (xs, (c : Int))).1 = _
    rw [wordG_pos (by omega), ← hT, k4]; simp
/-- The word of a part is the part of the word. -/
theorem partG_word {xs : List GRule} {ls : List Int} (h : lens xs = some ls) {i j : Int} (hi : 0 ≤ i) (hij : i ≤ j) (hj : j ≤ lastI ls) : ∃ l1, lens (partG xs ls i j) = some l1 ∧ wordG (partG xs ls i j) = cutL (wordG xs) i j := by
  have hw := pieces_word h (i := i) (j := j)
  have hlen := wordG_len h
  have hb := gramLen_bounds xs
  rw [gramLen_of h] at hb
  have hm : (((piecesL xs ls i j).flatMap (W1 xs)).length : Int) ≤ maxL := by
    rw [hw, cutL_len hi hij (by omega)]; unfold maxL; omega
  obtain ⟨l1, h1, h2⟩ := cutG_word h _ (pieces_mem h i j) hm
  obtain ⟨l2, h3, h4, _⟩ := trimG_sem h1
  exact ⟨l2, h3, by unfold partG; rw [h4, h2, hw]⟩
theorem partG_gramLen {xs : List GRule} {ls : List Int} (h : lens xs = some ls) {i j : Int} (hi : 0 ≤ i) (hij : i ≤ j) (hj : j ≤ lastI ls) : gramLen (partG xs ls i j) = j - i := by
  obtain ⟨l1, h1, h2⟩ := partG_word h hi hij hj
  have hlen := wordG_len h
  rw [gramLen_of h1, ← wordG_len h1, h2, cutL_len hi hij (by omega)]
end Go.Proofs.Ytfapnipmgmpgaaa

