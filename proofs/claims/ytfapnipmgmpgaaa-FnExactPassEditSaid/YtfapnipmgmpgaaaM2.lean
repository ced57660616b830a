import Derived.Test.YtfapnipmgmpgaaaM1
import Derived.Shelf.Abstract
import Derived.StillTailTactics
import Derived.Laws.EntriesVeiled
import Derived.Maps.Keyed
import Derived.DeepKeys4
import Derived.Deep.RegionLaw
import Derived.RangeFuncBox
import Derived.Deep.CutRange
import Derived.Deep.DeepCutAuto
import Derived.WalkArith
import Derived.Deep.OwnRows
import Derived.IntWalk
import Derived.BigQuiet
import Derived.Deep.RegionWith
import Derived.Shelf.Small.Strs
import Derived.Shelf.Utf8.RuneCount
import Derived.Shelf.LaysM
import Derived.Shelf.Strings.Search1
import Derived.Shelf.Strings.Search2
import Derived.Shelf.Strings.Search3
import Derived.Shelf.Strings.Count
import Derived.Shelf.Strings.Shaped
import Derived.Shelf.Strings.Split
import Derived.Shelf.Strings.SplitShaped
import Derived.Shelf.Strings.RuneCount
import Derived.Shelf.Strings.Explode
import Derived.Test.YtfapnipmgmpgaaaProg
import Derived.Lib.UnsafeStr
import Derived.Laws.IdiomStrings
import Derived.ArgAppend
import Derived.Deep.CutBlock
import Derived.Shelf.Strconv.Itoa0
import Derived.Shelf.Strconv.Itoa1
import Derived.Shelf.Strconv.Itoa2
import Derived.Shelf.Strconv.Itoa3
import Derived.Shelf.Strconv.Itoa4
import Derived.Lib.LaidTab
import Derived.WalkSmall
import Derived.Lib.OthersKept
namespace Go.Proofs.Ytfapnipmgmpgaaa
open Go.RowKit

def dig1 (j : Nat) : ByteArray := ⟨#[UInt8.ofNat (48 + j % 10)]⟩
theorem dig1_size (j : Nat) : (dig1 j).size = 1 := rfl
def digs : Nat → Nat → ByteArray → ByteArray
  | 0, _, acc => acc
  | f + 1, k, acc => if k = 0 then acc else digs f (k / 10) (dig1 k ++ acc)
def mtext (k : Nat) : ByteArray := if k = 0 then ⟨#[109, 48]⟩ else ⟨#[109]⟩ ++ digs k k ⟨#[]⟩

theorem conv1 (W : World) (j : Nat) : (convert 56 9 (.slice (some ⟨W.heap.size, 0, none⟩) 1 1)).run Try.prog (W.alloc (.cells #[.int .u8 (48 + (j : Int) % 10)] 5)) = .ok (.string (dig1 j)) (W.alloc (.cells #[.int .u8 (48 + (j : Int) % 10)] 5)) := by
  rw [run_convert_bytes_arg (W.alloc (.cells #[.int .u8 (48 + (j : Int) % 10)] 5)) 56 5 Try.underlying56 Try.underlying5 W.heap.size 0 1 1 [48 + (j : Int) % 10] rfl
    (fun i hi => by
      have : i = 0 := by omega
      subst this
      simp [go_sem]) 9 Try.underlying9]
  have : strOfNums [48 + (j : Int) % 10] = dig1 j := by
    simp only [strOfNums, dig1, List.map_cons, List.map_nil]
    rw [show (48 + (j : Int) % 10).toNat = 48 + j % 10 by omega]
  rw [this]
theorem digs_zero (f : Nat) (acc : ByteArray) : digs f 0 acc = acc := by cases f <;> simp [digs]
set_option maxRecDepth 100000 in
theorem markText_any (k : Nat) (w : World) (hk : k ≤ 8796093022208) :
    Calls Try.prog 65 #[.int .i64 k] w fun e w' => e = .returned (.string (mtext k)) ∧ Below w.heap.size w w' := by
  by_cases h0 : k = 0
  · subst h0
    go_enter Try.func65, Try.ntmps65
    go_wp2
    go_ret
    exact ⟨rfl, Below.refl _ _⟩
  · go_enter Try.func65, Try.ntmps65
    go_wp2_with fail
    go_loopw [0, 3] (fun q out wr => ∃ (f j : Nat) (acc : ByteArray), j ≤ f ∧ j ≤ k ∧ q = .int .i64 j ∧ out = .string acc ∧ acc.size + f ≤ k ∧ Below w.heap.size w wr ∧ Hid (digs f j acc = digs k k ⟨#[]⟩)) (fun q _ _ => (intOf q).toNat)
    case atStart => exact ⟨k, k, _, Nat.le_refl _, Nat.le_refl _, rfl, rfl, by simp [ByteArray.size], Below.refl _ _, rfl⟩
    case round =>
      obtain ⟨f, j, acc, hj, hjk, rfl, rfl, hsz, hb, H⟩ := hrel
      by_cases hz : 0 < j
      · have hr : 0 ≤ (j : Int) % 10 ∧ (j : Int) % 10 ≤ 9 := by omega
        have hcv := conv1 wr j
        have hds := dig1_size j
        obtain ⟨f', rfl⟩ : ∃ f', f = f' + 1 := ⟨f - 1, by omega⟩
        go_wp2
        go_roundw
        case rel => exact ⟨f', j / 10, _, by omega, by omega, by go_num, rfl, by rw [ByteArray.size_append, dig1_size]; omega, hb.alloc hb.size _, by have := H.out; rw [digs, if_neg (by omega)] at this; exact this⟩
        case measure => simp [intOf]; omega
      · have hj0 : j = 0 := by omega
        subst hj0
        go_wp2
        go_ret
        exact ⟨by rw [mtext, if_neg h0, ← H.out, digs_zero]; rfl, hb⟩

theorem markText_int (m : Nat) (q : Int) (w : World) (hq : q = m) (hk : m ≤ 8796093022208) :
    Calls Try.prog 65 #[.int .i64 q] w fun e w' => e = .returned (.string (mtext m)) ∧ Below w.heap.size w w' := by
  subst hq
  exact markText_any m w hk

def mark1 (k i : Nat) : GRule := { letter := mtext (k + 3 * i), left := (k + 3 * i + 1 : Nat), right := (k + 3 * i + 2 : Nat) }
def marks (k n : Nat) : List GRule := (List.range n).map (mark1 k)
theorem marks_length (k n : Nat) : (marks k n).length = n := by simp [marks]
theorem marks_at (k n i : Nat) (h : i < n) : (marks k n)[i]? = some (mark1 k i) := by simp [marks, h]

theorem grown_below {a b c : World} {row : Option Nat} (h : a.grownBy b row) (k : Below b.heap.size b c) : a.grownBy c row :=
  ⟨k.os.trans h.os, k.tape.trans h.tape, k.output.trans h.output, Nat.le_trans h.size k.size, fun i hi hne => (k.block i (Nat.lt_of_lt_of_le hi h.size)).trans (h.block i hi hne)⟩

theorem mark_step {xs : List GRule} {k n : Nat} (h : n < xs.length) : ((marks k n) ++ xs.drop n).set n (mark1 k n) = marks k (n + 1) ++ xs.drop (n + 1) := by
  rw [List.set_append, if_neg (by rw [marks_length]; omega), marks_length, Nat.sub_self, List.drop_eq_getElem_cons h, List.set_cons_zero]
  simp [marks, List.range_succ]

set_option maxRecDepth 100000 in
theorem markRuleS_any (base : Nat) (v : Value) (xs : List GRule) (k : Nat) (w : World) (h : OwnRules w base v xs) (hn : xs.length ≤ 1099511627776) (hk : k ≤ 1099511627776) :
    Calls Try.prog 64 #[v, .int .i64 k] w fun e w' => e = .returned (.int .i64 ((k + 3 * xs.length : Nat) : Int)) ∧ OwnRules w' base v (marks k xs.length) ∧ w.grownBy w' v.ownBlock := by
  rcases Nat.eq_zero_or_pos xs.length with h0 | h0
  · have hx : xs = [] := List.eq_nil_of_length_eq_zero h0
    subst hx
    have Hown := Lib.hid h
    obtain ⟨A, cap, rfl, _⟩ := own_nil h
    clear h
    go_enter Try.func64, Try.ntmps64
    go_wp2_with fail
    go_loopw [1, 5] (fun q i wr => q = .int .i64 k ∧ i = .int .i64 0 ∧ wr = w) (fun _ _ _ => 0)
    case atStart => exact ⟨rfl, rfl, rfl⟩
    case round =>
      obtain ⟨rfl, rfl, rfl⟩ := hrel
      go_wp2
      go_ret
      exact ⟨by simp, by simpa [marks] using Hown.out, World.grownBy.refl _ _⟩
  · obtain ⟨g, cap, rfl, hgb, hgl, hcap, _⟩ := own_form h h0
    have Hown := Lib.hid h
    clear h hcap
    go_enter Try.func64, Try.ntmps64
    go_wp2_with fail
    go_loopw [1, 5] (fun q i wr => ∃ n : Nat, n ≤ xs.length ∧ q = .int .i64 ((k + 3 * n : Nat) : Int) ∧ i = .int .i64 n ∧ w.grownBy wr (some g) ∧
      wr.ownsRow base 160 3 (.slice (some ⟨g, 0, none⟩) xs.length cap) xs.length ((marks k n ++ xs.drop n).flatMap GRule.cells)) (fun _ i _ => xs.length - (intOf i).toNat)
    case atStart => exact ⟨0, Nat.zero_le _, rfl, rfl, World.grownBy.refl _ _, by have := Hown.out; unfold OwnRules at this; simpa [marks] using this⟩
    case round =>
      obtain ⟨n, hnl, rfl, rfl, hgr, hown⟩ := hrel
      by_cases hlt : n < xs.length
      · have Hown := Lib.hid hown
        clear hown
        go_wp2_with fail
        refine (markText_int (k + 3 * n) _ _ (by omega) (by omega)).mono ?_
        rintro e w2 ⟨rfl, hb2⟩
        have hown2 := ownsRow_below Hown.out hb2
        have hlen : (marks k n ++ xs.drop n).length = xs.length := by simp [marks_length]; omega
        obtain ⟨u0, hu0⟩ : ∃ u, w2.cell? ⟨g, n * 3, none⟩ = some u :=
          ⟨_, (hown2.cellAt (n * 3) (by omega)).trans (List.getElem?_eq_getElem (by rw [hown2.1]; omega))⟩
        obtain ⟨u1, hu1⟩ : ∃ u, w2.cell? ⟨g, n * 3 + 1, none⟩ = some u :=
          ⟨_, (hown2.cellAt (n * 3 + 1) (by omega)).trans (List.getElem?_eq_getElem (by rw [hown2.1]; omega))⟩
        obtain ⟨u2, hu2⟩ : ∃ u, w2.cell? ⟨g, n * 3 + 2, none⟩ = some u :=
          ⟨_, (hown2.cellAt (n * 3 + 2) (by omega)).trans (List.getElem?_eq_getElem (by rw [hown2.1]; omega))⟩
        have hf0 := hown2.frozenAt (n * 3)
        have hf1 := hown2.frozenAt (n * 3 + 1)
        have hf2 := hown2.frozenAt (n * 3 + 2)
        have hst := OwnRules.stored3 hown2 n (mark1 k n) (by omega)
        rw [mark_step hlt] at hst
        have Hst := Lib.hid hst
        have Hgr := Lib.hid (grown_below hgr hb2)
        clear hown2 hst hlen hb2 hgr
        go_wp2
        have e1 : (mark1 k n).left = (k : Int) + 3 * n + 1 := by simp [mark1]
        have e2 : (mark1 k n).right = (k : Int) + 3 * n + 1 + 1 := by simp [mark1, Int.add_assoc]
        have hst := Hst.out
        rw [e1, e2] at hst
        go_roundw
        case rel => exact ⟨n + 1, by omega, by congr 1 <;> omega, by go_num, grown_trans Hgr.out hst.2, hst.1⟩
        case measure => simp [intOf]; omega
      · have hkn : n = xs.length := by omega
        subst hkn
        have Hown := Lib.hid hown
        clear hown
        go_wp2
        go_ret
        exact ⟨rfl, by have := Hown.out; rw [List.drop_length, List.append_nil] at this; unfold OwnRules; rw [marks_length]; exact this, hgr⟩

theorem keepB {wr W W2 : World} {p : Addr} {v : Value} (h : Below wr.heap.size wr W ∧ W.cell? p = some v) (h2 : Below W.heap.size W W2) (hp : p.block < wr.heap.size) : Below wr.heap.size wr W2 ∧ W2.cell? p = some v :=
  ⟨h.1.trans (h2.mono h.1.size), (h2.cell (Nat.lt_of_lt_of_le hp h.1.size)).trans h.2⟩
set_option maxRecDepth 100000 in
theorem heldRuleS_any (v : Value) (k m : Nat) (w : World) (h : Sl RuleE w w.heap.size v (marks k m)) (hn : m ≤ 1099511627776) (hk : k ≤ 1099511627776) :
    Calls Try.prog 66 #[v, .int .i64 k] w fun e w' => e = .returned (.int .i64 ((k + 3 * m : Nat) : Int)) ∧ Below w.heap.size w w' := by
  obtain ⟨A, c, rfl, hc, hm, hrow⟩ := h
  rw [marks_length] at hc
  rw [marks_length]
  clear hm
  go_enter Try.func66, Try.ntmps66
  go_wp2_with fail
  go_loopw [1, 5] (fun q i wr => ∃ n : Nat, n ≤ m ∧ q = .int .i64 ((k + 3 * n : Nat) : Int) ∧ i = .int .i64 n ∧ Below w.heap.size w wr) (fun _ i _ => m - (intOf i).toNat)
  case atStart => exact ⟨0, Nat.zero_le _, rfl, rfl, Below.refl _ _⟩
  case round =>
    obtain ⟨n, hnl, rfl, rfl, hb⟩ := hrel
    by_cases hlt : n < m
    · obtain ⟨b, o, rfl, hbl, hcell⟩ := hrow.rule (k := n) (by rw [marks_length]; exact hlt)
      obtain ⟨g0, g1, g2⟩ := hcell n _ (marks_at k m n hlt)
      have hc0 : wr.cell? ⟨b, o + n * 3, none⟩ = some (.string (mtext (k + 3 * n))) := (hb.cell (p := ⟨b, o + n * 3, none⟩) hbl).trans g0
      have hc1 : wr.cell? ⟨b, o + n * 3 + 1, none⟩ = some (.int .i64 ((k : Int) + 3 * n + 1)) := (hb.cell (p := ⟨b, o + n * 3 + 1, none⟩) hbl).trans g1
      have hc2 : wr.cell? ⟨b, o + n * 3 + 2, none⟩ = some (.int .i64 ((k : Int) + 3 * n + 1 + 1)) := (hb.cell (p := ⟨b, o + n * 3 + 2, none⟩) hbl).trans (g2.trans (by simp [mark1, Int.add_assoc]))
      have hsz : w.heap.size ≤ wr.heap.size := hb.size
      have hi : (n : Int) < (m : Int) := by omega
      clear hcell g0 g1 g2 hrow
      have hbw : b < wr.heap.size := by omega
      go_wp2_with fail
      go_region_held3 (fun w' => Below wr.heap.size wr w' ∧ w'.cell? ⟨b, o + n * 3, none⟩ = some (.string (mtext (k + 3 * n)))) (first | exact ⟨(Below.refl _ _).drew, hc0⟩ | (exact keepB (by assumption) hb2 hbw))
        (first | (go_at_call 65; refine (markText_int (k + 3 * n) _ _ (by omega) (by omega)).mono ?_; rintro e w2 ⟨rfl, hb2⟩))
      have hbz : Below wr.heap.size wr w2 := ((Below.refl _ _).drew).trans hb2
      have hd1 := (hbz.cell (p := ⟨b, o + n * 3 + 1, none⟩) hbw).trans hc1
      have hd2 := (hbz.cell (p := ⟨b, o + n * 3 + 2, none⟩) hbw).trans hc2
      go_wp2
      go_roundw
      case rel => exact ⟨n + 1, by omega, by congr 1 <;> omega, by go_num, hb.trans (hbz.mono hsz)⟩
      case measure => simp [intOf]; omega
    · have hkn : n = m := by omega
      subst hkn
      go_wp2
      go_ret
      exact ⟨rfl, hb⟩

theorem markGrammar_any (base : Nat) (v : Value) (xs : List GRule) (k : Nat) (w : World) (h : OwnRules w base v xs) (hn : xs.length ≤ 1099511627776) (hk : k ≤ 1099511627776) :
    Calls Try.prog 26 #[.agg #[v], .int .i64 k] w fun e w' => e = .returned (.int .i64 ((k + 3 * xs.length : Nat) : Int)) ∧ OwnRules w' base v (marks k xs.length) ∧ w.grownBy w' v.ownBlock := by
  have h1 := fun o => h.alloc o
  have H1 := Lib.hid h1
  have hgr : ∀ o, w.grownBy (w.alloc o) v.ownBlock := fun o => World.grownBy_alloc w o _
  have Hgr := Lib.hid hgr
  obtain ⟨A, cap, rfl, _⟩ := own_nil h
  clear h h1 hgr
  go_enter Try.func26, Try.ntmps26
  go_wp2_with fail
  refine (markRuleS_any base _ xs k _ (H1.out _) hn hk).mono ?_
  rintro e w1 ⟨rfl, h2, h3⟩
  have H2 := Lib.hid h2
  have H3 := Lib.hid h3
  clear h2 h3
  go_wp2
  go_ret
  refine ⟨by simp, H2.out, ?_⟩
  have h3 := H3.out
  have h4 := Hgr.out (Obj.cells #[Value.slice A xs.length cap] 32)
  exact ⟨h3.os.trans h4.os, h3.tape.trans h4.tape, h3.output.trans h4.output, Nat.le_trans h4.size h3.size, fun i hi hne => (h3.block i (Nat.lt_of_lt_of_le hi h4.size) hne).trans (h4.block i hi hne)⟩

end Go.Proofs.Ytfapnipmgmpgaaa

namespace Go.Proofs.Ytfapnipmgmpgaaa
open Go.RowKit

end Go.Proofs.Ytfapnipmgmpgaaa

namespace Go.Proofs.Ytfapnipmgmpgaaa
open Go.RowKit

end Go.Proofs.Ytfapnipmgmpgaaa

namespace Go.Proofs.Ytfapnipmgmpgaaa
open Go.RowKit

theorem own_keep {w w' : World} {base e s : Nat} {v : Value} {n : Nat} {xs : List Value} (h : w.ownsRow base e s v n xs) (hk : ∀ g, v.ownBlock = some g → w'.heap[g]? = w.heap[g]?) : w'.ownsRow base e s v n xs := by
  refine ⟨h.1, ?_⟩
  rcases h.2 with hn | ⟨g, cap, cur, rfl, hb, hgg, rest⟩
  · exact .inl hn
  · exact .inr ⟨g, cap, cur, rfl, hb, by rw [hk g rfl]; exact hgg, rest⟩
theorem below_of_grown {w w' : World} {row : Option Nat} {N : Nat} (hg : w.grownBy w' row) (hN : N ≤ w.heap.size) (hr : ∀ g, row = some g → N ≤ g) : Below N w w' :=
  ⟨hg.os, hg.tape, hg.output, hg.size, fun k hk => hg.block k (by omega) (fun e => by have := hr k e.symm; omega)⟩

theorem OwnRules.below {w w' : World} {base : Nat} {v : Value} {l : List GRule} (h : OwnRules w base v l) (hb : Below w.heap.size w w') : OwnRules w' base v l := ownsRow_below h hb
theorem OwnRules.keep {w w' : World} {base : Nat} {v : Value} {l : List GRule} {row : Option Nat} (h : OwnRules w base v l) (hg : w.grownBy w' row) (hne : ∀ g, v.ownBlock = some g → some g ≠ row) : OwnRules w' base v l :=
  own_keep h fun g hgg => hg.block g (World.ownsRow.lt h g hgg).2 (hne g hgg)

end Go.Proofs.Ytfapnipmgmpgaaa

namespace Go.Proofs.Ytfapnipmgmpgaaa
open Go.RowKit

/-- The index of the first element for which p holds, or -1. -/
def idxOf {α : Type} (p : α → Bool) : List α → Int
  | [] => -1
  | x :: xs => if p x then 0 else if idxOf p xs < 0 then -1 else idxOf p xs + 1
theorem idxOf_none {α : Type} {p : α → Bool} {xs : List α} (h : ∀ x ∈ xs, p x = false) : idxOf p xs = -1 := by
  induction xs with
  | nil => rfl
  | cons x xs ih => rw [idxOf, h x (by simp), ih (fun y hy => h y (by simp [hy]))]; rfl
theorem idxOf_some {α : Type} {p : α → Bool} {xs : List α} {k : Nat} {x : α} (h : ∀ (i : Nat) y, i < k → xs[i]? = some y → p y = false) (hx : xs[k]? = some x) (hp : p x = true) : idxOf p xs = k := by
  induction xs generalizing k with
  | nil => simp at hx
  | cons y ys ih =>
    cases k with
    | zero => simp at hx; subst hx; rw [idxOf, if_pos hp]; rfl
    | succ k =>
      have h0 := h 0 y (by omega) rfl
      have := ih (k := k) (fun i z hi hz => h (i + 1) z (by omega) (by simpa using hz)) (by simpa using hx)
      rw [idxOf, if_neg (by simp [h0]), this, if_neg (by omega)]; omega
theorem idxOf_any {α : Type} (p : α → Bool) (xs : List α) : decide (0 ≤ idxOf p xs) = xs.any p := by
  induction xs with
  | nil => rfl
  | cons x xs ih =>
    rw [idxOf, List.any_cons, ← ih]
    by_cases h : p x = true
    · simp [h]
    · rw [if_neg h]
      split <;> simp [h] <;> omega

end Go.Proofs.Ytfapnipmgmpgaaa

namespace Go.Proofs.Ytfapnipmgmpgaaa
open Go.RowKit

def inR (n a b : Int) : Bool := decide (a ≤ n) && decide (n ≤ b)
structure GAuto where
  states : Int
  start : Int
  finals : List Int
  next : List (List Int)
theorem l00In_yes (n a b : Int) (w : World) (h : inR n a b = true) : Calls Try.prog 88 #[.int .i64 n, .int .i64 a, .int .i64 b] w fun e w' => e = .returned (.bool true) ∧ w = w' :=
  (l00In_any n a b w).mono fun _ _ ⟨he, hw⟩ => ⟨by rw [he, ← h]; rfl, hw⟩
theorem l00In_no (n a b : Int) (w : World) (h : inR n a b = false) : Calls Try.prog 88 #[.int .i64 n, .int .i64 a, .int .i64 b] w fun e w' => e = .returned (.bool false) ∧ w = w' :=
  (l00In_any n a b w).mono fun _ _ ⟨he, hw⟩ => ⟨by rw [he, ← h]; rfl, hw⟩

end Go.Proofs.Ytfapnipmgmpgaaa

namespace Go.Proofs.Ytfapnipmgmpgaaa
open Go.RowKit

/-- What lay in the blocks of C lies there still; of the rest of the world nothing but blocks has turned. -/
structure Wk (C : Nat → Prop) (w w' : World) : Prop where
  os : w'.os = w.os
  tape : w'.tape = w.tape
  output : w'.output = w.output
  size : w.heap.size ≤ w'.heap.size
  block : ∀ k, C k → w'.heap[k]? = w.heap[k]?
section
variable {C C' : Nat → Prop} {a b c : World}
theorem Wk.refl (C : Nat → Prop) (w : World) : Wk C w w := ⟨rfl, rfl, rfl, Nat.le_refl _, fun _ _ => rfl⟩
theorem Wk.trans (h : Wk C a b) (k : Wk C b c) : Wk C a c := ⟨k.os.trans h.os, k.tape.trans h.tape, k.output.trans h.output, Nat.le_trans h.size k.size, fun i hi => (k.block i hi).trans (h.block i hi)⟩
theorem Wk.mono (h : Wk C a b) (hs : ∀ k, C' k → C k) : Wk C' a b := ⟨h.os, h.tape, h.output, h.size, fun i hi => h.block i (hs i hi)⟩
theorem Wk.of_below {B : Nat} (h : Below B a b) (hs : ∀ k, C k → k < B) : Wk C a b := ⟨h.os, h.tape, h.output, h.size, fun i hi => h.block i (hs i hi)⟩
theorem Wk.below {B : Nat} (h : Wk C a b) (hs : ∀ k, k < B → C k) : Below B a b := ⟨h.os, h.tape, h.output, h.size, fun i hi => h.block i (hs i hi)⟩
theorem Wk.keep (h : Wk C a b) : Keep C a b := fun i hi => h.block i hi
theorem Wk.cell {k o : Nat} {v : Value} (h : Wk C a b) (hk : C k) (hc : a.cell? ⟨k, o, none⟩ = some v) : b.cell? ⟨k, o, none⟩ = some v := (h.keep.cell hk).trans hc
end

def getR (xs : List GRule) (r : Nat) : GRule := xs.getD r ⟨⟨#[]⟩, 0, 0⟩
theorem lens_steps {xs : List GRule} {ls : List Int} (h : lens xs = some ls) : ∀ (k : Nat) r, xs[k]? = some r → okRule k r = true ∧ ls.getD k 0 = ruleLen ls r := by
  suffices H : ∀ (ys : List GRule) (a o : List Int), ys.foldl lensStep (some a) = some o → (∃ t, o = a ++ t) ∧ ∀ (k : Nat) r, ys[k]? = some r → okRule (a.length + k) r = true ∧ o.getD (a.length + k) 0 = ruleLen o r by
    intro k r hr
    have := (H xs [] ls h).2 k r hr
    simpa using this
  intro ys
  induction ys with
  | nil => intro a o h; simp at h; subst h; exact ⟨⟨[], by simp⟩, fun k r hr => by simp at hr⟩
  | cons x ys ih =>
    intro a o h
    simp only [List.foldl_cons, lensStep, Option.bind_some] at h
    split at h
    · rename_i hc
      obtain ⟨⟨t, ht⟩, h2⟩ := ih _ _ h
      subst ht
      refine ⟨⟨ruleLen a x :: t, by simp⟩, fun k r hr => ?_⟩
      cases k with
      | zero =>
        simp at hr
        subst hr
        refine ⟨by simpa using hc.1, ?_⟩
        have e : (a ++ [ruleLen a x] ++ t).getD (a.length + 0) 0 = ruleLen a x := by
          rw [List.getD_eq_getElem?_getD, List.getElem?_append_left (by simp), List.getElem?_append_right (by omega)]
          simp
        rw [e]
        unfold ruleLen
        split
        · rename_i hp
          have hok := hc.1
          simp only [okRule, hp, if_true, Bool.and_eq_true, decide_eq_true_eq] at hok
          rw [List.append_assoc]
          simp only [List.getD_eq_getElem?_getD]
          rw [List.getElem?_append_left (by omega), List.getElem?_append_left (by omega)]
        · rfl
      | succ k =>
        have := h2 k r (by simpa using hr)
        simp only [List.length_append, List.length_cons, List.length_nil] at this
        rw [show a.length + (k + 1) = a.length + (0 + 1) + k by omega]
        exact this
    · rw [lens_none] at h; cases h
theorem lens_pos' {xs : List GRule} {ls : List Int} (h : lens xs = some ls) {r : Nat} (hr : r < xs.length) : 1 ≤ ls.getD r 0 ∧ ls.getD r 0 ≤ 1000000000000000 := by
  have hl := lens_length h
  have := lens_pos h ls[r] (List.getElem_mem (by omega))
  rw [List.getD_eq_getElem?_getD, List.getElem?_eq_getElem (by omega)]; exact this
section
variable {σ : Type}
/-- An object that is no row of bytes. -/
def NoB (o : Obj) : Prop := ∀ c fz, o ≠ .cells c 5 fz
theorem NoB.cells {c : Array Value} {t : TypeId} {fz : Nat × Nat} (h : t ≠ 5) : NoB (.cells c t fz) := fun _ _ e => by
  injection e with _ h2 _; exact h h2
/-- No row of bytes lies from a up in a world. -/
def NewNoB (a : Nat) (w : World) : Prop := ∀ k, a ≤ k → ∀ c fz, w.heap[k]? ≠ some (.cells c 5 fz)
theorem NewNoB.same (w : World) : NewNoB w.heap.size w := fun k hk c fz e => by
  have := (Array.getElem?_eq_some_iff.1 e).1
  omega
theorem NewNoB.alloc {a : Nat} {w : World} (h : NewNoB a w) {o : Obj} (ho : NoB o) : NewNoB a (w.alloc o) := fun k hk c fz e => by
  have hl := (Array.getElem?_eq_some_iff.1 e).1
  rcases Nat.lt_or_ge k w.heap.size with h1 | h1
  · rw [Below.heap_alloc _ _ _ h1] at e
    exact h k hk c fz e
  · have : k = w.heap.size := by simp at hl; omega
    subst this
    rw [heap_alloc_new] at e
    exact ho c fz (Option.some.inj e)
/-- What each step may count on. -/
def Runs (step : σ → Nat → σ) (Ok : σ → Nat → Prop) (s : σ) (l : List Nat) : Prop := ∀ l1 r l2, l = l1 ++ r :: l2 → Ok (l1.foldl step s) r
theorem Runs.one {step : σ → Nat → σ} {Ok : σ → Nat → Prop} {s : σ} {r : Nat} (h : Runs step Ok s [r]) : Ok s r := h [] r [] rfl
theorem Runs.left {step : σ → Nat → σ} {Ok : σ → Nat → Prop} {s : σ} {a b : List Nat} (h : Runs step Ok s (a ++ b)) : Runs step Ok s a := fun l1 r l2 e => h l1 r (l2 ++ b) (by rw [e]; simp)
theorem Runs.right {step : σ → Nat → σ} {Ok : σ → Nat → Prop} {s : σ} {a b : List Nat} (h : Runs step Ok s (a ++ b)) : Runs step Ok (a.foldl step s) b := fun l1 r l2 e => by
  have := h (a ++ l1) r l2 (by rw [e]; simp)
  rwa [List.foldl_append] at this
theorem Runs.all {step : σ → Nat → σ} {Ok : σ → Nat → Prop} {s : σ} {l : List Nat} (h : ∀ s r, Ok s r) : Runs step Ok s l := fun _ _ _ _ => h _ _
/-- What the closure 'take' has captured. -/
structure PSet (w : World) (C : Nat → Prop) (bl bi bj bw bg bt : Nat) (vL vW vR : Value) (i j : Int) (ls : List Int) (xs : List GRule) : Prop where
  cl : w.cell? ⟨bl, 0, none⟩ = some vL
  ci : w.cell? ⟨bi, 0, none⟩ = some (.int .i64 i)
  cj : w.cell? ⟨bj, 0, none⟩ = some (.int .i64 j)
  cw : w.cell? ⟨bw, 0, none⟩ = some vW
  cg : w.cell? ⟨bg, 0, none⟩ = some vR
  ct : w.cell? ⟨bt, 0, none⟩ = some (.func (.func 167) #[] #[.pointer (some ⟨bl, 0, none⟩), .pointer (some ⟨bi, 0, none⟩), .pointer (some ⟨bj, 0, none⟩), .pointer (some ⟨bw, 0, none⟩), .pointer (some ⟨bg, 0, none⟩), .pointer (some ⟨bt, 0, none⟩)])
  ml : C bl
  mi : C bi
  mj : C bj
  mw : C bw
  mg : C bg
  mt : C bt
  sl : SlS IntE w C vL ls
  sr : SlS RuleE w C vR xs
  lt : ∀ b, C b → b < w.heap.size
theorem PSet.up {w w' : World} {C C' : Nat → Prop} {bl bi bj bw bg bt : Nat} {vL vW vR : Value} {i j : Int} {ls : List Int} {xs : List GRule} (h : PSet w C bl bi bj bw bg bt vL vW vR i j ls xs)
    (hw : Wk C w w') (hs : ∀ b, C b → C' b) (hl : ∀ b, C' b → b < w'.heap.size) : PSet w' C' bl bi bj bw bg bt vL vW vR i j ls xs :=
  ⟨hw.cell h.ml h.cl, hw.cell h.mi h.ci, hw.cell h.mj h.cj, hw.cell h.mw h.cw, hw.cell h.mg h.cg, hw.cell h.mt h.ct, hs _ h.ml, hs _ h.mi, hs _ h.mj, hs _ h.mw, hs _ h.mg, hs _ h.mt,
    (h.sl.keep hw.keep).more hs, (h.sr.keep hw.keep).more hs, hl⟩

end
end Go.Proofs.Ytfapnipmgmpgaaa

namespace Go.Proofs.Ytfapnipmgmpgaaa
open Go.RowKit

end Go.Proofs.Ytfapnipmgmpgaaa

namespace Go.Proofs.Ytfapnipmgmpgaaa

def OkAll (xs : List GRule) : Prop := ∀ k r, xs[k]? = some r → okRule k r = true
theorem okRule_let {k : Nat} {r : GRule} (h : okRule k r = true) (hp : r.pair = false) : r.letter.size = 1 ∧ r.left = 0 ∧ r.right = 0 := by
  unfold okRule at h
  rw [if_neg (by simp [hp])] at h
  simp [isLet] at h
  exact ⟨h.1.1.1.1, h.1.2, h.2⟩
structure CanonOk (k : Nat) (p : List GRule × List Int) : Prop where
  l1 : p.1.length = k
  l2 : p.2.length = k
  low : ∀ i, i < k → 0 ≤ p.2.getD i 0 ∧ p.2.getD i 0 ≤ i
  idx : ∀ i, i < k → p.2.getD i 0 = ((p.1.idxOf (getR p.1 i) : Nat) : Int)
  ok : OkAll p.1
theorem OkAll.snoc {xs : List GRule} {r : GRule} (h : OkAll xs) (hr : okRule xs.length r = true) : OkAll (xs ++ [r]) := by
  intro k x hk
  rcases Nat.lt_or_ge k xs.length with hlt | hge
  · rw [List.getElem?_append_left hlt] at hk; exact h k x hk
  · have hl := (List.getElem?_eq_some_iff.1 hk).1
    simp at hl
    have : k = xs.length := by omega
    subst this
    simp at hk; rw [← hk]; exact hr
theorem okAll_lens {xs : List GRule} {ls : List Int} (h : lens xs = some ls) : OkAll xs := fun k r hk => (lens_steps h k r hk).1
end Go.Proofs.Ytfapnipmgmpgaaa

namespace Go.Proofs.Ytfapnipmgmpgaaa
open Go.RowKit

/-- Nothing but block b has turned. -/
structure But (b : Nat) (w w' : World) : Prop where
  os : w'.os = w.os
  tape : w'.tape = w.tape
  output : w'.output = w.output
  size : w.heap.size ≤ w'.heap.size
  block : ∀ k, k < w.heap.size → k ≠ b → w'.heap[k]? = w.heap[k]?
theorem But.refl (b : Nat) (w : World) : But b w w := ⟨rfl, rfl, rfl, Nat.le_refl _, fun _ _ _ => rfl⟩
theorem But.trans {b : Nat} {x y z : World} (h : But b x y) (k : But b y z) : But b x z :=
  ⟨k.os.trans h.os, k.tape.trans h.tape, k.output.trans h.output, Nat.le_trans h.size k.size, fun i hi hne => (k.block i (Nat.lt_of_lt_of_le hi h.size) hne).trans (h.block i hi hne)⟩
theorem But.of {b : Nat} {w w' : World} (h : Below w.heap.size w w') : But b w w' := ⟨h.os, h.tape, h.output, h.size, fun k hk _ => h.block k hk⟩
theorem But.below {b B : Nat} {w w' : World} (h : But b w w') (hB : B ≤ b) (hw : B ≤ w.heap.size) : Below B w w' := ⟨h.os, h.tape, h.output, h.size, fun k hk => h.block k (Nat.lt_of_lt_of_le hk hw) (by omega)⟩
theorem But.cell {b : Nat} {w w' : World} (h : But b w w') {p : Addr} (hp : p.block < w.heap.size) (hne : p.block ≠ b) : w'.cell? p = w.cell? p := by
  simp only [World.cell?, h.block _ hp hne]
theorem But.drew {b : Nat} {w w' : World} (h : But b w w') : But b w w'.drew := ⟨h.os, h.tape, h.output, h.size, h.block⟩
theorem But.drewN {b : Nat} {w w' : World} (h : But b w w') (n : Nat) : But b w (w'.drewN n) := ⟨h.os, h.tape, h.output, h.size, h.block⟩
theorem But.setCell {b o : Nat} {w w' : World} (h : But b w w') (v : Value) : But b w (w'.setCell ⟨b, o, none⟩ v) :=
  ⟨h.os, h.tape, h.output, by simpa [World.setCell] using h.size, fun k hk hne => by
    rw [← h.block k hk hne]
    simp only [World.setCell, Array.getElem?_modify]
    rw [if_neg (fun e => hne e.symm)]⟩
theorem But.alloc {b : Nat} {w w' : World} (h : But b w w') (o : Obj) : But b w (w'.alloc o) :=
  ⟨h.os, h.tape, h.output, Nat.le_trans h.size (by simp), fun k hk hne => (Below.heap_alloc w' o k (Nat.lt_of_lt_of_le hk h.size)).trans (h.block k hk hne)⟩
theorem But.tr {b : Nat} {w w1 w2 : World} (h : But b w w1) (hb : Below w1.heap.size w1 w2) : But b w w2 := h.trans (But.of hb)
end Go.Proofs.Ytfapnipmgmpgaaa

namespace Go.Proofs.Ytfapnipmgmpgaaa
open Go.RowKit

/-- Block b holds the cells a. -/
def Blk (w : World) (b : Nat) (a : Array Value) (t : TypeId) : Prop := w.heap[b]? = some (.cells a t (0, 0))
section
variable {w w' : World} {b N : Nat} {a : Array Value} {t : TypeId}
theorem Blk.lt (h : Blk w b a t) : b < w.heap.size := (Array.getElem?_eq_some_iff.1 h).1
theorem Blk.up (h : Blk w b a t) (hb : Below w.heap.size w w') : Blk w' b a t := (hb.block b h.lt).trans h
theorem Blk.cell (h : Blk w b a t) {i : Nat} {v : Value} (hi : a[i]? = some v) : w.cell? ⟨b, i, none⟩ = some v := by
  rw [cell_of_row w b i a t (0, 0) h, hi]
theorem Blk.frozen (h : Blk w b a t) (i : Nat) : w.frozen? ⟨b, i, none⟩ = false := by
  simp [World.frozen?, show w.heap[b]? = _ from h]
theorem Blk.set (h : Blk w b a t) (i : Nat) (v : Value) : Blk (w.setCell ⟨b, i, none⟩ v) b (a.setIfInBounds i v) t := by
  obtain ⟨hlt, hk⟩ := Array.getElem?_eq_some_iff.1 h
  show (w.heap.modify b _)[b]? = _
  rw [Array.getElem?_eq_getElem (by rw [Array.size_modify]; exact hlt), Array.getElem_modify_self, hk]
  rfl
theorem Blk.other (h : Blk w b a t) {p : Addr} (hne : b ≠ p.block) (v : Value) : Blk (w.setCell p v) b a t := (Below.heap_setCell w p v b hne).trans h
theorem Blk.alloc (h : Blk w b a t) (o : Obj) : Blk (w.alloc o) b a t := (Below.heap_alloc w o b h.lt).trans h
theorem Blk.drew (h : Blk w b a t) : Blk w.drew b a t := h
theorem Blk.new (w : World) (a : Array Value) (t : TypeId) : Blk (w.alloc (.cells a t)) w.heap.size a t := heap_alloc_new w _
end
theorem Blk.but {w w' : World} {b c : Nat} {a : Array Value} {t : TypeId} (h : Blk w c a t) (hb : But b w w') (hne : c ≠ b) : Blk w' c a t := (hb.block c h.lt hne).trans h
/-- What holds below a world with a new block holds below the world. -/
theorem Below.unalloc {w w' : World} {o : Obj} (hb : Below (w.alloc o).heap.size (w.alloc o) w') : Below w.heap.size w w' ∧ w'.heap[w.heap.size]? = some o :=
  ⟨((Below.refl w.heap.size w).alloc (Nat.le_refl _) o).trans (hb.mono (by simp)), (hb.block _ (by simp)).trans (heap_alloc_new w o)⟩
theorem Below.undrew {w w' : World} (hb : Below w.drew.heap.size w.drew w') : Below w.heap.size w w' := ((Below.refl w.heap.size w).drew).trans hb
theorem Below.up {w0 w w' : World} {N : Nat} (h : Below N w0 w) (hb : Below w.heap.size w w') (hN : N ≤ w0.heap.size) : Below N w0 w' := h.trans (hb.mono (Nat.le_trans hN h.size))
theorem Below.tr {w0 w w' : World} (h : Below w0.heap.size w0 w) (hb : Below w.heap.size w w') : Below w0.heap.size w0 w' := h.trans (hb.mono h.size)
theorem SlS.upN {α : Type} {E : Enc α} {w w' : World} {N : Nat} {v : Value} {xs : List α} (h : Sl E w N v xs) (hN : N ≤ w.heap.size) (hb : Below w.heap.size w w') : Sl E w' N v xs := h.below (hb.mono hN)
end Go.Proofs.Ytfapnipmgmpgaaa

namespace Go.Proofs.Ytfapnipmgmpgaaa
open Go.RowKit

/-- A row of rules of one's own, between two block numbers. -/
def OwnR (w : World) (lo hi : Nat) (v : Value) (l : List GRule) : Prop := OwnRules w lo v l ∧ (∀ g, v.ownBlock = some g → g < hi) ∧ hi ≤ w.heap.size
section
variable {w w' : World} {lo hi : Nat} {v : Value} {l : List GRule} {row : Option Nat}
theorem OwnR.of (h : OwnRules w lo v l) : OwnR w lo w.heap.size v l := ⟨h, fun g hg => (World.ownsRow.lt h g hg).2, Nat.le_refl _⟩
theorem OwnR.up (h : OwnR w lo hi v l) (hb : Below w.heap.size w w') : OwnR w' lo hi v l := ⟨OwnRules.below h.1 hb, h.2.1, Nat.le_trans h.2.2 hb.size⟩
theorem OwnR.rng (h : OwnR w lo hi v l) : ∀ g, v.ownBlock = some g → lo ≤ g ∧ g < hi := fun g hg => ⟨(World.ownsRow.lt h.1 g hg).1, h.2.1 g hg⟩
theorem OwnR.grown (h : OwnR w lo hi v l) (hg : w.grownBy w' row) (hr : ∀ g, row = some g → g < lo ∨ hi ≤ g) : OwnR w' lo hi v l :=
  ⟨OwnRules.keep h.1 hg fun g hgg e => by have h1 := h.rng g hgg; have h2 := hr g e.symm; omega, h.2.1, Nat.le_trans h.2.2 hg.size⟩
theorem OwnR.alloc (h : OwnR w lo hi v l) (o : Obj) : OwnR (w.alloc o) lo hi v l := ⟨World.ownsRow.alloc h.1 o, h.2.1, Nat.le_trans h.2.2 (by simp)⟩
theorem OwnR.sl (h : OwnR w lo hi v l) : Sl RuleE w w.heap.size v l := OwnRules.sl h.1
end
/-- Only blocks between lo and hi have turned (and new ones have come). -/
structure Chg (lo hi : Nat) (w w' : World) : Prop where
  os : w'.os = w.os
  tape : w'.tape = w.tape
  output : w'.output = w.output
  size : w.heap.size ≤ w'.heap.size
  block : ∀ k, k < w.heap.size → k < lo ∨ hi ≤ k → w'.heap[k]? = w.heap[k]?
theorem Chg.refl (lo hi : Nat) (w : World) : Chg lo hi w w := ⟨rfl, rfl, rfl, Nat.le_refl _, fun _ _ _ => rfl⟩
theorem Chg.trans {lo hi : Nat} {x y z : World} (h : Chg lo hi x y) (k : Chg lo hi y z) : Chg lo hi x z :=
  ⟨k.os.trans h.os, k.tape.trans h.tape, k.output.trans h.output, Nat.le_trans h.size k.size, fun i hi1 hne => (k.block i (Nat.lt_of_lt_of_le hi1 h.size) hne).trans (h.block i hi1 hne)⟩
theorem Chg.of_below {lo hi : Nat} {x y : World} (h : Below x.heap.size x y) : Chg lo hi x y := ⟨h.os, h.tape, h.output, h.size, fun k hk _ => h.block k hk⟩
theorem chg_of {w w' : World} {lo hi : Nat} {v : Value} {l : List GRule} (h : OwnR w lo hi v l) (hg : w.grownBy w' v.ownBlock) : Chg lo hi w w' :=
  ⟨hg.os, hg.tape, hg.output, hg.size, fun k hk hne => hg.block k hk fun e => by have := h.rng k e.symm; omega⟩
theorem Chg.mono {lo hi lo' hi' : Nat} {x y : World} (h : Chg lo hi x y) (h1 : lo' ≤ lo) (h2 : hi ≤ hi') : Chg lo' hi' x y := ⟨h.os, h.tape, h.output, h.size, fun k hk hne => h.block k hk (by omega)⟩
theorem Chg.below {lo hi N : Nat} {x y : World} (h : Chg lo hi x y) (h1 : N ≤ lo) (h2 : N ≤ x.heap.size) : Below N x y := ⟨h.os, h.tape, h.output, h.size, fun k hk => h.block k (Nat.lt_of_lt_of_le hk h2) (by omega)⟩
theorem Blk.chg {w w' : World} {b lo hi : Nat} {a : Array Value} {t : TypeId} (h : Blk w b a t) (hc : Chg lo hi w w') (hne : b < lo ∨ hi ≤ b) : Blk w' b a t := (hc.block b h.lt hne).trans h
theorem OwnR.chg {w w' : World} {lo hi lo' hi' : Nat} {v : Value} {l : List GRule} (h : OwnR w lo hi v l) (hc : Chg lo' hi' w w') (hne : hi ≤ lo' ∨ hi' ≤ lo) : OwnR w' lo hi v l :=
  ⟨own_keep h.1 fun g hg => hc.block g (by have := h.rng g hg; have := h.2.2; omega) (by have := h.rng g hg; omega), h.2.1, Nat.le_trans h.2.2 hc.size⟩
theorem OwnR.markedC {w w' : World} {lo hi lo' hi' : Nat} {v : Value} {l l' : List GRule} (h : OwnR w lo hi v l) (h' : OwnRules w' lo v l') (hc : Chg lo' hi' w w') : OwnR w' lo hi v l' := ⟨h', h.2.1, Nat.le_trans h.2.2 hc.size⟩
theorem Below.chg {w0 w w' : World} {N lo hi : Nat} (h : Below N w0 w) (hN : N ≤ w.heap.size) (hc : Chg lo hi w w') (hl : N ≤ lo) : Below N w0 w' := h.trans (hc.below hl hN)
theorem SlS.chgN {α : Type} {E : Enc α} {w w' : World} {N lo hi : Nat} {v : Value} {xs : List α} (h : Sl E w N v xs) (hN : N ≤ w.heap.size) (hc : Chg lo hi w w') (hl : N ≤ lo) : Sl E w' N v xs := h.below (hc.below hl hN)
theorem Blk.grown {w w' : World} {b : Nat} {a : Array Value} {t : TypeId} {row : Option Nat} (h : Blk w b a t) (hg : w.grownBy w' row) (hne : ∀ g, row = some g → g ≠ b) : Blk w' b a t :=
  (hg.block b h.lt (fun e => hne b e.symm rfl)).trans h
theorem Below.grown {w0 w w' : World} {N : Nat} {row : Option Nat} (h : Below N w0 w) (hN : N ≤ w.heap.size) (hg : w.grownBy w' row) (hr : ∀ g, row = some g → N ≤ g) : Below N w0 w' := h.trans (below_of_grown hg hN hr)
theorem keep66 {wr W : World} {a x : Nat} {t t' : TypeId} {v0 v1 v2 v3 v4 v5 c0 c1 c2 c3 c4 c5 : Value} (ha : Blk wr a #[v0, v1, v2, v3, v4, v5] t) (hx : Blk wr x #[c0, c1, c2, c3, c4, c5] t') (h : Below wr.heap.size wr W) :
    Below wr.heap.size wr W ∧ W.cell? ⟨a, 0, none⟩ = some v0 ∧ W.cell? ⟨a, 1, none⟩ = some v1 ∧ W.cell? ⟨a, 2, none⟩ = some v2 ∧ W.cell? ⟨a, 3, none⟩ = some v3 ∧ W.cell? ⟨a, 4, none⟩ = some v4 ∧ W.cell? ⟨a, 5, none⟩ = some v5 ∧ W.cell? ⟨x, 0, none⟩ = some c0 ∧ W.cell? ⟨x, 1, none⟩ = some c1 ∧ W.cell? ⟨x, 2, none⟩ = some c2 ∧ W.cell? ⟨x, 3, none⟩ = some c3 ∧ W.cell? ⟨x, 4, none⟩ = some c4 ∧ W.cell? ⟨x, 5, none⟩ = some c5 := by
  have h1 := ha.up h
  have h2 := hx.up h
  exact ⟨h, h1.cell rfl, h1.cell rfl, h1.cell rfl, h1.cell rfl, h1.cell rfl, h1.cell rfl, h2.cell rfl, h2.cell rfl, h2.cell rfl, h2.cell rfl, h2.cell rfl, h2.cell rfl⟩
end Go.Proofs.Ytfapnipmgmpgaaa

namespace Go.Proofs.Ytfapnipmgmpgaaa
open Go.RowKit
section
variable {σ : Type}

end
end Go.Proofs.Ytfapnipmgmpgaaa

namespace Go.Proofs.Ytfapnipmgmpgaaa
open Go.RowKit

theorem within_yes (n a b : Int) (w : World) (h : inR n a b = true) : Calls Try.prog 86 #[.int .i64 n, .int .i64 a, .int .i64 b] w fun e w' => e = .returned (.bool true) ∧ w = w' :=
  (within_any n a b w).mono fun _ _ ⟨he, hw⟩ => ⟨by rw [he, ← h]; rfl, hw⟩
theorem within_no (n a b : Int) (w : World) (h : inR n a b = false) : Calls Try.prog 86 #[.int .i64 n, .int .i64 a, .int .i64 b] w fun e w' => e = .returned (.bool false) ∧ w = w' :=
  (within_any n a b w).mono fun _ _ ⟨he, hw⟩ => ⟨by rw [he, ← h]; rfl, hw⟩

end Go.Proofs.Ytfapnipmgmpgaaa

namespace Go.Proofs.Ytfapnipmgmpgaaa
open Go.RowKit

/-- The value v reads as the automaton a, below block B. -/
def AutoV (w : World) (B : Nat) (v : Value) (a : GAuto) : Prop := ∃ vF vN, v = .agg #[.int .i64 a.states, .int .i64 a.start, vF, vN] ∧ Sl IntE w B vF a.finals ∧ Sl (SliceE IntE) w B vN a.next
theorem AutoV.below {w w' : World} {B : Nat} {v : Value} {a : GAuto} (h : AutoV w B v a) (hb : Below B w w') : AutoV w' B v a := by
  obtain ⟨vF, vN, rfl, h1, h2⟩ := h
  exact ⟨vF, vN, rfl, h1.below hb, h2.below hb⟩
theorem AutoV.le {w : World} {B B' : Nat} {v : Value} {a : GAuto} (h : AutoV w B v a) (hb : B ≤ B') : AutoV w B' v a := by
  obtain ⟨vF, vN, rfl, h1, h2⟩ := h
  exact ⟨vF, vN, rfl, h1.le hb, h2.le hb⟩
theorem AutoV.up {w0 w : World} {v : Value} {a : GAuto} (h : AutoV w0 w0.heap.size v a) (hb : Below w0.heap.size w0 w) : AutoV w w.heap.size v a := (h.below hb).le hb.size

end Go.Proofs.Ytfapnipmgmpgaaa

namespace Go.Proofs.Ytfapnipmgmpgaaa
open Go.RowKit

end Go.Proofs.Ytfapnipmgmpgaaa

namespace Go.Proofs.Ytfapnipmgmpgaaa
open Go.RowKit

end Go.Proofs.Ytfapnipmgmpgaaa

namespace Go.Proofs.Ytfapnipmgmpgaaa
open Go.RowKit

end Go.Proofs.Ytfapnipmgmpgaaa

namespace Go.Proofs.Ytfapnipmgmpgaaa
open Go.RowKit

/-- Four cells of a block. -/
def Box4 (w : World) (b : Nat) (c0 c1 c2 c3 : Value) : Prop := w.cell? ⟨b, 0, none⟩ = some c0 ∧ w.cell? ⟨b, 1, none⟩ = some c1 ∧ w.cell? ⟨b, 2, none⟩ = some c2 ∧ w.cell? ⟨b, 3, none⟩ = some c3
theorem Box4.up {w w' : World} {b N : Nat} {c0 c1 c2 c3 : Value} (h : Box4 w b c0 c1 c2 c3) (hb : Below N w w') (hlt : b < N) : Box4 w' b c0 c1 c2 c3 :=
  ⟨(hb.cell (p := ⟨b, 0, none⟩) hlt).trans h.1, (hb.cell (p := ⟨b, 1, none⟩) hlt).trans h.2.1, (hb.cell (p := ⟨b, 2, none⟩) hlt).trans h.2.2.1, (hb.cell (p := ⟨b, 3, none⟩) hlt).trans h.2.2.2⟩
theorem Box4.new {w w' : World} {c0 c1 c2 c3 : Value} {t : TypeId} (hb : Below (w.alloc (.cells #[c0, c1, c2, c3] t)).heap.size (w.alloc (.cells #[c0, c1, c2, c3] t)) w') : Box4 w' w.heap.size c0 c1 c2 c3 :=
  Box4.up (w := w.alloc (.cells #[c0, c1, c2, c3] t)) ⟨by simp [go_sem], by simp [go_sem], by simp [go_sem], by simp [go_sem]⟩ hb (by simp)
end Go.Proofs.Ytfapnipmgmpgaaa

namespace Go.Proofs.Ytfapnipmgmpgaaa
open Go.RowKit

/-- 'append(s, x)' of one element onto a row of the call's own, with what is known of the block. -/
theorem wpList_push2 {P : Program} {W : World} {ops : Array Oper} {rest : List Oper} {o : Oper} {a : Act} {Q : Exit → Act → World → Prop} (hgd : o.guard = none) (s x : Operand) (t : TypeId)
    (ho : o.op = .call { callee := .builtin .append, args := #[s, x], argTypes := #[t, t] }) {cs : Array Value} {e : TypeId}
    (i : TypeInfo) (z : Value) (size bytes : Nat) (ht : P.underlying t = some (.slice e)) (hi : P.info? e = some i) (hz : i.zero = some z)
    (hsize : i.size = size) (hby : i.bytes = bytes) (hzs : z.cells.size = size) (hsz : 0 < size)
    {base : Nat} {v : Value} {n : Nat} {xs : List Value} (hs : a.eval s = v) (hx : a.eval x = .slice (some ⟨W.heap.size, 0, none⟩) 1 1)
    (hcs : cs.size = size) (h1 : ∀ u ∈ cs.toList, u.oneCell' = true) (hown : W.ownsRow base e size v n xs)
    (hlen : (n + 1) * bytes ≤ 140737488355328) (hn : n + 1 ≤ 140737488355328) (hbase : base ≤ W.heap.size)
    (h : ∀ v' w', w'.ownsRow base e size v' (n + 1) (xs ++ cs.toList) → (W.alloc (.cells cs e)).grownBy w' v.ownBlock → (v'.ownBlock = v.ownBlock ∨ v'.ownBlock = some (W.heap.size + 1)) → wpList P ops Q rest (a.put o.dst v') w') :
    wpList P ops Q (o :: rest) a (W.alloc (.cells cs e)) := by
  refine wpList_plain hgd fun _ hK => ?_
  obtain ⟨v', w', hrun, h2, h3, _, h5⟩ := run_append_own_at (P := P) (W.alloc (.cells cs e)) base t o.type e i z size bytes ht hi hz hsize hby hzs hsz v n xs (hown.alloc _) ⟨W.heap.size, 0, none⟩ 1 1 cs.toList (by simpa using hcs)
    (fun j u hu => by
      have : (W.alloc (.cells cs e)).cell? ⟨W.heap.size, j, none⟩ = cs[j]? := cell_of_row _ _ _ _ e (0, 0) (heap_alloc_new W _)
      have ha : (⟨W.heap.size, 0, none⟩ : Addr).add j = ⟨W.heap.size, j, none⟩ := by unfold Addr.add; split <;> simp_all
      rw [ha, this]; simpa using hu) h1 (by simp only [maxLen]; omega) hlen (by simp; omega)
  unfold Oper.wp execOp
  simp only [ho, resolve, invoke, builtin, Sem.run_bind, Sem.run_pure, Result.andThen_ok, List.map_toArray, List.map_cons, List.map_nil, hs, hx, hrun]
  exact hK _ _ (h v' w' h2 h3 (by simpa using h5))

/-! the plain maps -/
def mapCell (next out : List (List Int)) (r : GRule) (s : Nat) : Int :=
  if r.pair then (out.getD r.right.toNat []).getD ((out.getD r.left.toNat []).getD s 0).toNat 0 else (next.getD s []).getD ((r.letter.data.getD 0 0).toNat - 97) 0
def mapRow (next out : List (List Int)) (r : GRule) : List Int := (List.range next.length).map (mapCell next out r)
def mapsOf (next : List (List Int)) (xs : List GRule) : List (List Int) := xs.foldl (fun out r => out ++ [mapRow next out r]) []
/-- All rows are rows of states. -/
def RowsOk (n : Nat) (l : List (List Int)) : Prop := ∀ t, t < l.length → (l.getD t []).length = n ∧ ∀ d, d < n → 0 ≤ (l.getD t []).getD d 0 ∧ (l.getD t []).getD d 0 < n
theorem RowsOk.snoc {n : Nat} {l : List (List Int)} {row : List Int} (h : RowsOk n l) (h1 : row.length = n) (h2 : ∀ d, d < n → 0 ≤ row.getD d 0 ∧ row.getD d 0 < n) : RowsOk n (l ++ [row]) := by
  intro t ht
  rcases Nat.lt_or_ge t l.length with h3 | h3
  · have e : (l ++ [row]).getD t [] = l.getD t [] := by rw [List.getD_eq_getElem?_getD, List.getElem?_append_left h3, List.getD_eq_getElem?_getD]
    rw [e]; exact h t h3
  · have ht' : t = l.length := by simp at ht; omega
    subst ht'
    have e : (l ++ [row]).getD l.length [] = row := by rw [List.getD_eq_getElem?_getD, List.getElem?_append_right (Nat.le_refl _)]; simp
    rw [e]; exact ⟨h1, h2⟩
end Go.Proofs.Ytfapnipmgmpgaaa

namespace Go.Proofs.Ytfapnipmgmpgaaa
open Go.RowKit

end Go.Proofs.Ytfapnipmgmpgaaa

namespace Go.Proofs.Ytfapnipmgmpgaaa
open Go.RowKit

end Go.Proofs.Ytfapnipmgmpgaaa

namespace Go.Proofs.Ytfapnipmgmpgaaa
open Go.RowKit

/-- The value v reads as a ride: an automaton, a grammar, its lengths, its maps. -/
def RideV (w : World) (B : Nat) (v : Value) (a : GAuto) (xs : List GRule) (ls : List Int) : Prop :=
  ∃ vF vN vR vL vM, v = .agg #[.int .i64 a.states, .int .i64 a.start, vF, vN, vR, vL, vM] ∧ Sl IntE w B vF a.finals ∧ Sl (SliceE IntE) w B vN a.next ∧ Sl RuleE w B vR xs ∧ Sl IntE w B vL ls ∧ Sl (SliceE IntE) w B vM (mapsOf a.next xs)
theorem RideV.below {w w' : World} {B : Nat} {v : Value} {a : GAuto} {xs : List GRule} {ls : List Int} (h : RideV w B v a xs ls) (hb : Below B w w') : RideV w' B v a xs ls := by
  obtain ⟨vF, vN, vR, vL, vM, rfl, h1, h2, h3, h4, h5⟩ := h
  exact ⟨vF, vN, vR, vL, vM, rfl, h1.below hb, h2.below hb, h3.below hb, h4.below hb, h5.below hb⟩
theorem RideV.le {w : World} {B B' : Nat} {v : Value} {a : GAuto} {xs : List GRule} {ls : List Int} (h : RideV w B v a xs ls) (hb : B ≤ B') : RideV w B' v a xs ls := by
  obtain ⟨vF, vN, vR, vL, vM, rfl, h1, h2, h3, h4, h5⟩ := h
  exact ⟨vF, vN, vR, vL, vM, rfl, h1.le hb, h2.le hb, h3.le hb, h4.le hb, h5.le hb⟩
theorem RideV.up {w0 w : World} {v : Value} {a : GAuto} {xs : List GRule} {ls : List Int} (h : RideV w0 w0.heap.size v a xs ls) (hb : Below w0.heap.size w0 w) : RideV w w.heap.size v a xs ls := (h.below hb).le hb.size
end Go.Proofs.Ytfapnipmgmpgaaa

namespace Go.Proofs.Ytfapnipmgmpgaaa
open Go.RowKit

def lastI (l : List Int) : Int := l.getD (l.length - 1) 0
theorem last_any (v : Value) (l : List Int) (w : World) (h : Sl IntE w w.heap.size v l) :
    Calls Try.prog 154 #[v] w fun e w' => e = .returned (.int .i64 (lastI l)) ∧ w = w' := by
  obtain ⟨A, c, rfl, hc, hm, hrow⟩ := h
  unfold maxLen at hm
  by_cases h0 : l.length = 0
  · have hl : l = [] := List.eq_nil_of_length_eq_zero h0
    subst hl
    go_enter Try.func154, Try.ntmps154
    go_wp2_with fail
    go_ret
    exact ⟨rfl, rfl⟩
  · obtain ⟨b, o, rfl, hbl, hcell⟩ := hrow.int (k := 0) (by omega)
    have hc0 := hcell (l.length - 1) (by omega)
    have g0 : ((l.length : Int) == 0) = false := by rw [beq_eq_false_iff_ne]; omega
    have hk : ((l.length : Int) - 1).toNat = l.length - 1 := by omega
    have hl : 0 ≤ (l.length : Int) - 1 := by omega
    obtain ⟨x, hx⟩ : ∃ x, l.getD (l.length - 1) 0 = x := ⟨_, rfl⟩
    have Hx := Lib.hid hx
    rw [hx] at hc0
    clear hcell hx
    go_enter Try.func154, Try.ntmps154
    go_wp2_with fail
    go_ret
    exact ⟨ret_int (by rw [lastI, Hx.out]), rfl⟩

theorem Wk.set {C : Nat → Prop} {w : World} {b o : Nat} {v : Value} (h : ¬ C b) : Wk C w (w.setCell ⟨b, o, none⟩ v).drew :=
  ⟨rfl, rfl, rfl, by show w.heap.size ≤ (w.setCell ⟨b, o, none⟩ v).heap.size; simp, fun k hk => heap_setCell_other w ⟨b, o, none⟩ k v (fun e => h (by have e' : k = b := e; exact e' ▸ hk))⟩
/-- What stands behind some rules in the state box bs. -/
structure RJ (w0 : World) (bs n : Nat) (C : Nat → Prop) (s : Nat) (w : World) : Prop where
  wk : Wk (fun b => b < w0.heap.size ∧ b ≠ bs) w0 w
  cell : w.cell? ⟨bs, 0, none⟩ = some (.int .i64 s)
  fr : w.frozen? ⟨bs, 0, none⟩ = false
  nc : ¬ C bs
  lt : s < n
end Go.Proofs.Ytfapnipmgmpgaaa

namespace Go.Proofs.Ytfapnipmgmpgaaa
open Go.RowKit

/-- The length of the word of a grammar. -/
def gramLen (xs : List GRule) : Int := match lens xs with | some ls => lastI ls | none => 0
theorem gramLen_of {xs : List GRule} {ls : List Int} (h : lens xs = some ls) : gramLen xs = lastI ls := by simp [gramLen, h]
theorem lastI_bounds {xs : List GRule} {ls : List Int} (h : lens xs = some ls) : 0 ≤ lastI ls ∧ lastI ls ≤ 1000000000000000 := by
  have hll := lens_length h
  unfold lastI
  by_cases h0 : xs.length = 0
  · have : ls = [] := List.eq_nil_of_length_eq_zero (by omega)
    subst this; simp
  · have := lens_pos' h (r := ls.length - 1) (by omega)
    omega
theorem gramLen_bounds (xs : List GRule) : 0 ≤ gramLen xs ∧ gramLen xs ≤ 1000000000000000 := by
  unfold gramLen
  split
  · rename_i ls h; exact lastI_bounds h
  · omega

set_option maxRecDepth 100000 in
theorem l02Length_any (b o : Nat) (v : Value) (xs : List GRule) (ls : List Int) (w : World) (hl : lens xs = some ls) (hp : w.cell? ⟨b, o, none⟩ = some v) (hbl : b < w.heap.size) (h : Sl RuleE w w.heap.size v xs) (hsm : SmallL xs) (hn : xs.length ≤ 1099511627776) :
    Calls Try.prog 47 #[.pointer (some ⟨b, o, none⟩)] w fun e w' => e = .returned (.int .i64 (lastI ls)) ∧ Below w.heap.size w w' := by
  have Hsl := Lib.hid h
  have Hl := Lib.hid hl
  clear h hl
  go_enter Try.func47, Try.ntmps47
  go_wp2_with fail
  refine (l02Sizes_any _ _ _ _ _ hp hbl Hsl.out hsm hn).mono ?_
  rintro e w1 ⟨hb, (⟨ls', v1, h1, rfl, h2⟩ | ⟨h1, _⟩)⟩
  · have e1 : ls' = ls := by rw [Hl.out] at h1; injection h1 with h1; exact h1.symm
    subst e1
    have HB := Lib.hid hb
    have hsl := h2.sl
    obtain ⟨A, c, rfl, hc, hm, hrow⟩ := hsl
    unfold maxLen at hm
    clear h1 h2 hb
    by_cases h0 : ls'.length = 0
    · have hl : ls' = [] := List.eq_nil_of_length_eq_zero h0
      subst hl
      clear hrow
      go_wp2_with fail
      go_ret
      exact ⟨rfl, HB.out⟩
    · obtain ⟨b, o, rfl, hbl, hcell⟩ := hrow.int (k := 0) (by omega)
      have hc0 := hcell (ls'.length - 1) (by omega)
      have g0 : ((ls'.length : Int) == 0) = false := by rw [beq_eq_false_iff_ne]; omega
      have hk : ((ls'.length : Int) - 1).toNat = ls'.length - 1 := by omega
      have hl : 0 ≤ (ls'.length : Int) - 1 := by omega
      have hwr : IntKind.i64.wrap ((ls'.length : Int) - 1) = (ls'.length : Int) - 1 := IntWalk.i64_in _ (by omega)
      obtain ⟨x, hx⟩ : ∃ x, ls'.getD (ls'.length - 1) 0 = x := ⟨_, rfl⟩
      have Hx := Lib.hid hx
      rw [hx] at hc0
      clear hcell hx hrow
      go_wp2_with fail
      go_ret
      exact ⟨ret_int (by rw [lastI, Hx.out]), HB.out⟩
  · rw [Hl.out] at h1; cases h1

def lenV (xs : List GRule) : Int := if gramOk xs then gramLen xs else 0
def lenC (xs : List GRule) : Int := if gramOk xs then 0 else 1
set_option maxRecDepth 100000 in
theorem LengthOf_any (v : Value) (xs : List GRule) (w : World) (h : Sl RuleE w w.heap.size v xs) (hn : xs.length ≤ 1099511627776) :
    Calls Try.prog 101 #[.agg #[v]] w fun e w' => e = .returned (.tuple #[.int .i64 (lenV xs), .int .i64 (lenC xs)]) ∧ Below w.heap.size w w' := by
  have h1 := fun o => (h.below ((Below.refl w.heap.size w).alloc (Nat.le_refl _) o)).le (B' := (w.alloc o).heap.size) (by simp)
  have H1 := Lib.hid h1
  clear h1 h
  go_enter Try.func101, Try.ntmps101
  go_wp2_with fail
  refine (lengths_any _ _ _ (H1.out _) hn).mono ?_
  rintro e w1 ⟨hb, (⟨ls, v1, h1, rfl, h2⟩ | ⟨h1, rfl⟩)⟩
  · have HL := Lib.hid h2.sl
    have H1' := Lib.hid h1
    have HB := Lib.hid hb
    obtain ⟨A, c, rfl, _⟩ := h2.sl
    clear h1 h2 hb
    by_cases hc : xs.length ≤ 400
    · have hd : decide (xs.length ≤ 400) = true := by simp [hc]
      have hg : gramOk xs = true := by simp [gramOk, H1'.out, hc]
      have Hg := Lib.hid hg
      rw [hd]
      clear hd hc hg
      go_wp2_with fail
      refine (last_any _ ls _ HL.out).mono ?_
      rintro e w2 ⟨rfl, rfl⟩
      go_wp2_with fail
      go_ret2
      exact ⟨by simp [lenV, lenC, Hg.out, gramLen_of H1'.out], ((Below.refl _ _).alloc (Nat.le_refl _) _).trans (HB.out.mono (by simp))⟩
    · have hd : decide (xs.length ≤ 400) = false := by simp [hc]
      have hg : gramOk xs = false := by simp [gramOk, hc]
      have Hg := Lib.hid hg
      rw [hd]
      clear hd hc hg
      go_wp2_with fail
      go_ret2
      exact ⟨by simp [lenV, lenC, Hg.out], ((Below.refl _ _).alloc (Nat.le_refl _) _).trans (HB.out.mono (by simp))⟩
  · have hg : gramOk xs = false := by simp [gramOk, h1]
    have Hg := Lib.hid hg
    have HB := Lib.hid hb
    clear h1 hg hb
    go_wp2_with fail
    go_ret2
    exact ⟨by simp [lenV, lenC, Hg.out], ((Below.refl _ _).alloc (Nat.le_refl _) _).trans (HB.out.mono (by simp))⟩
end Go.Proofs.Ytfapnipmgmpgaaa

namespace Go.Proofs.Ytfapnipmgmpgaaa
open Go.RowKit

/-- An edit. -/
structure GEdit where
  kind : Int
  i : Int
  j : Int
  k : Int
  part : List GRule
  map : ByteArray
def usesJ (k : Int) : Bool := decide (2 ≤ k)
def usesK (k : Int) : Bool := k == 3 || k == 4 || k == 6
def EditV (w : World) (B : Nat) (v : Value) (e : GEdit) : Prop := ∃ vR, v = .agg #[.int .i64 e.kind, .int .i64 e.i, .int .i64 e.j, .int .i64 e.k, vR, .string e.map] ∧ Sl RuleE w B vR e.part
theorem EditV.below {w w' : World} {B : Nat} {v : Value} {e : GEdit} (h : EditV w B v e) (hb : Below B w w') : EditV w' B v e := by
  obtain ⟨vR, rfl, h1⟩ := h; exact ⟨vR, rfl, h1.below hb⟩
theorem EditV.le {w : World} {B B' : Nat} {v : Value} {e : GEdit} (h : EditV w B v e) (hb : B ≤ B') : EditV w B' v e := by
  obtain ⟨vR, rfl, h1⟩ := h; exact ⟨vR, rfl, h1.le hb⟩
theorem EditV.up {w0 w : World} {v : Value} {e : GEdit} (h : EditV w0 w0.heap.size v e) (hb : Below w0.heap.size w0 w) : EditV w w.heap.size v e := (h.below hb).le hb.size

def numOk (n : Int) (told : Bool) : Bool := if told then inR n 0 1000000000000000 else n == 0
def editOk (e : GEdit) : Bool :=
  inR e.kind 1 7 && inR e.i 0 1000000000000000 && numOk e.j (usesJ e.kind) && numOk e.k (usesK e.kind) && !(usesJ e.kind && decide (e.j < e.i)) &&
    (decide (0 < e.part.length) == (e.kind == 1)) && gramOk e.part && (if e.kind == 7 then e.map.size == 4 && wordOk e.map else e.map.size == 0)
def lessP (e : GEdit) (p : Int) : Int := if p ≤ e.i then p else if p < e.j then e.i else p - (e.j - e.i)
def placeP (e : GEdit) (p : Int) : Int :=
  if e.kind = 1 then (if e.i < p then p + gramLen e.part else p)
  else if e.kind = 2 then lessP e p
  else if e.kind = 3 then (if e.k < p then p + (e.j - e.i) else p)
  else if e.kind = 4 then (if e.i < p ∧ p < e.j then lessP e e.k + p - e.i else if lessP e e.k < lessP e p then lessP e p + (e.j - e.i) else lessP e p)
  else if e.kind = 5 then (if e.i < p ∧ p < e.j then e.i + e.j - p else p)
  else if e.kind = 6 then (if e.j ≤ p then p - (e.j - e.i) + (e.j - e.i) * e.k else if (e.i < p ∧ p < e.j) ∧ e.k = 0 then e.i else p)
  else p
/-- Six cells of a block. -/
def Box6 (w : World) (b : Nat) (c0 c1 c2 c3 c4 c5 : Value) : Prop := w.cell? ⟨b, 0, none⟩ = some c0 ∧ w.cell? ⟨b, 1, none⟩ = some c1 ∧ w.cell? ⟨b, 2, none⟩ = some c2 ∧ w.cell? ⟨b, 3, none⟩ = some c3 ∧ w.cell? ⟨b, 4, none⟩ = some c4 ∧ w.cell? ⟨b, 5, none⟩ = some c5
theorem Box6.up {w w' : World} {b N : Nat} {c0 c1 c2 c3 c4 c5 : Value} (h : Box6 w b c0 c1 c2 c3 c4 c5) (hb : Below N w w') (hlt : b < N) : Box6 w' b c0 c1 c2 c3 c4 c5 := by
  obtain ⟨h0, h1, h2, h3, h4, h5⟩ := h
  have k : ∀ {o : Nat} {v : Value}, w.cell? ⟨b, o, none⟩ = some v → w'.cell? ⟨b, o, none⟩ = some v := fun {o v} hc => (hb.cell (p := ⟨b, o, none⟩) hlt).trans hc
  exact ⟨k h0, k h1, k h2, k h3, k h4, k h5⟩
theorem Box6.new {w w' : World} {c0 c1 c2 c3 c4 c5 : Value} {t : TypeId} (hb : Below (w.alloc (.cells #[c0, c1, c2, c3, c4, c5] t)).heap.size (w.alloc (.cells #[c0, c1, c2, c3, c4, c5] t)) w') : Box6 w' w.heap.size c0 c1 c2 c3 c4 c5 :=
  Box6.up (w := w.alloc (.cells #[c0, c1, c2, c3, c4, c5] t)) ⟨by simp [go_sem], by simp [go_sem], by simp [go_sem], by simp [go_sem], by simp [go_sem], by simp [go_sem]⟩ hb (by simp)
theorem kind7 {k : Int} (h : inR k 1 7 = true) : k = 1 ∨ k = 2 ∨ k = 3 ∨ k = 4 ∨ k = 5 ∨ k = 6 ∨ k = 7 := by
  have : 1 ≤ k ∧ k ≤ 7 := by simpa [inR] using h
  omega
theorem numOk_get {n : Int} {b : Bool} (h : numOk n b = true) : 0 ≤ n ∧ n ≤ 1000000000000000 := by
  cases b
  · have : n = 0 := by simpa [numOk] using h
    omega
  · simpa [numOk, inR] using h
theorem editOk_get {e : GEdit} (h : editOk e = true) : inR e.kind 1 7 = true ∧ (0 ≤ e.i ∧ e.i ≤ 1000000000000000) ∧ (0 ≤ e.j ∧ e.j ≤ 1000000000000000) ∧ (0 ≤ e.k ∧ e.k ≤ 1000000000000000) ∧ (2 ≤ e.kind → e.i ≤ e.j) ∧ (e.kind = 1 → e.j = 0) ∧ gramOk e.part = true := by
  simp only [editOk, Bool.and_eq_true, Bool.not_eq_true'] at h
  obtain ⟨⟨⟨⟨⟨⟨⟨h1, h2⟩, h3⟩, h4⟩, h5⟩, h6⟩, h7⟩, h8⟩ := h
  refine ⟨h1, by simpa [inR] using h2, numOk_get h3, numOk_get h4, ?_, ?_, h7⟩
  · intro hk
    simp [usesJ] at h5
    have := h5 hk
    omega
  · intro hk
    rw [hk] at h3
    simpa [numOk, usesJ] using h3
end Go.Proofs.Ytfapnipmgmpgaaa

namespace Go.Proofs.Ytfapnipmgmpgaaa
open Go.RowKit

def szE (e : GEdit) (left : Int) : Int := if szRs e.part left < 0 then -1 else if szRs e.part left - e.map.size < 0 then -1 else szRs e.part left - e.map.size
set_option maxRecDepth 100000 in
theorem szEdit_any (v : Value) (e : GEdit) (left : Int) (w : World) (h : EditV w w.heap.size v e) (hsm : SmallL e.part) (hm : e.map.size ≤ maxLen) (hl : 0 ≤ left ∧ left ≤ 1048576) :
    Calls Try.prog 8 #[v, .int .i64 left] w fun r w' => r = .returned (.int .i64 (szE e left)) ∧ Below w.heap.size w w' := by
  obtain ⟨vR, rfl, hR⟩ := h
  unfold maxLen at hm
  have HR := Lib.hid (fun o => (hR.below ((Below.refl w.heap.size w).alloc (Nat.le_refl _) o)).le (B' := (w.alloc o).heap.size) (by simp))
  obtain ⟨AR, cR, rfl, _⟩ := hR
  go_enter Try.func8, Try.ntmps8
  go_wp2_with fail
  refine (szGrammar_any _ e.part _ _ (HR.out _) hsm hl).mono ?_
  rintro r w1 ⟨rfl, hb1⟩
  have z1 : w.heap.size < w1.heap.size := Nat.lt_of_lt_of_le (by simp) hb1.size
  have x5 := (hb1.cell (p := ⟨w.heap.size, 5, none⟩) (by simp)).trans (show _ = some (Value.string e.map) by simp [go_sem])
  have B1 := Lib.hid (((Below.refl w.heap.size w).alloc (Nat.le_refl _) _).trans (hb1.mono (by simp)))
  clear hb1
  by_cases c1 : szRs e.part left < 0
  · rw [if_pos c1]
    have C1 := Lib.hid c1
    clear c1
    go_wp2_with fail
    go_ret
    exact ⟨ret_int (by rw [szE, if_pos C1.out]), B1.out⟩
  · rw [if_neg c1]
    obtain ⟨hle, _⟩ := szRs_le e.part left (by omega)
    have C1 := Lib.hid c1
    obtain ⟨X, hX⟩ : ∃ X, szRs e.part left = X := ⟨_, rfl⟩
    rw [hX] at c1 hle
    rw [hX]
    have HX := Lib.hid hX
    have ws : IntKind.i64.wrap (X - (e.map.size : Int)) = X - (e.map.size : Int) := IntWalk.i64_in _ (by omega)
    clear hX
    by_cases c2 : X - (e.map.size : Int) < 0
    · have C2 := Lib.hid c2
      go_wp2_with fail
      go_ret
      exact ⟨ret_int (by rw [szE, if_neg (by have := C1.out; omega), HX.out, if_pos C2.out]), B1.out⟩
    · have C2 := Lib.hid c2
      go_wp2_with fail
      go_ret
      exact ⟨ret_int (by rw [szE, if_neg (by have := C1.out; omega), HX.out, if_neg (by have := C2.out; omega)]), B1.out⟩

theorem eqEdit_any (v v' : Value) (e : GEdit) (w : World) (h : EditV w w.heap.size v e) (h' : EditV w w.heap.size v' e) :
    Calls Try.prog 12 #[v, v'] w fun r w' => r = .returned (.bool true) ∧ Below w.heap.size w w' := by
  obtain ⟨vR, rfl, hR⟩ := h
  obtain ⟨vR', rfl, hR'⟩ := h'
  have hB := fun o o' => ((Below.refl w.heap.size w).alloc (Nat.le_refl _) o).alloc (by simp) o'
  have HB := Lib.hid hB
  have HR := Lib.hid hR
  have HR' := Lib.hid hR'
  clear hB
  obtain ⟨AR, cR, rfl, _⟩ := hR
  obtain ⟨AR', cR', rfl, _⟩ := hR'
  have q1 : (e.kind != e.kind) = false := by simp
  have q2 : (e.i != e.i) = false := by simp
  have q3 : (e.j != e.j) = false := by simp
  have q4 : (e.k != e.k) = false := by simp
  go_enter Try.func12, Try.ntmps12
  go_wp2_with fail
  refine (eqGrammar_any _ _ e.part _ ((HR.out.below (HB.out _ _)).le (by first | omega | (simp; done) | (simp; omega))) ((HR'.out.below (HB.out _ _)).le (by first | omega | (simp; done) | (simp; omega)))).mono ?_
  rintro r w1 ⟨rfl, hb1⟩
  have hz1 : w.heap.size + 2 ≤ w1.heap.size := by have := hb1.size; simp at this; omega
  have x5 := (hb1.cell (p := ⟨w.heap.size, 5, none⟩) (by simp; omega)).trans (show _ = some (Value.string e.map) by simp [go_sem])
  have y5 := (hb1.cell (p := ⟨w.heap.size + 1, 5, none⟩) (by simp)).trans (show _ = some (Value.string e.map) by simp [go_sem])
  have B1 := Lib.hid ((HB.out _ _).trans (hb1.mono (by simp; omega)))
  clear hb1
  go_wp2_with fail
  go_ret
  exact ⟨rfl, B1.out⟩
end Go.Proofs.Ytfapnipmgmpgaaa

namespace Go.Proofs.Ytfapnipmgmpgaaa

end Go.Proofs.Ytfapnipmgmpgaaa

namespace Go.Proofs.Ytfapnipmgmpgaaa
open Go.RowKit

def keyV (r : GRule) : Value := .agg #[.string r.letter, .int .i64 r.left, .int .i64 r.right]
def KeyOk (r : GRule) : Prop := r.letter.size ≤ 1 ∧ (-9223372036854775808 ≤ r.left ∧ r.left ≤ 9223372036854775807) ∧ (-9223372036854775808 ≤ r.right ∧ r.right ≤ 9223372036854775807)
theorem keyV_inj {r s : GRule} (h : keyV r = keyV s) : r = s := by
  cases r; cases s
  simp [keyV] at h
  obtain ⟨h1, h2, h3⟩ := h
  subst h1 h2 h3; rfl
theorem laidOutP : laidOutB Try.prog = true := by kernel_rfl
theorem rowRule : (160 : TypeId) < Try.prog.types.size := of_decide_eq_true (by kernel_rfl)
theorem keyTypeRule : Try.prog.keyTypeAt 2 160 = true := by kernel_rfl
theorem ruleKey : WideMaps.KeyLaw Try.prog 160 := deep_law_laid laidOutP (m := 2) (by omega) rowRule keyTypeRule (by rw [Try.underlying160])
theorem cellsRule : Try.prog.cellsOf 160 = 3 := by kernel_rfl
theorem formedRule (l : ByteArray) (a b : Int) : (Value.agg #[.string l, .int .i64 a, .int .i64 b]).formed Try.prog 160 = true := by simp [Value.formed, Try.underlying160, cellsRule]
theorem litsRule (D : Nat) (l : ByteArray) (a b : Int) (hl : l.size ≤ 1) (ha : (Lit.int .i64 a).wf = true) (hb : (Lit.int .i64 b).wf = true) :
    Try.prog.keyLits (D + 2) 160 [.string l, .int .i64 a, .int .i64 b] = some [.string l.data.toList, .int .i64 a, .int .i64 b] := by
  have hm : l.size ≤ maxLen := Nat.le_trans hl (by decide)
  have c9 : Try.prog.cellsOf 9 = 1 := by kernel_rfl
  have c2 : Try.prog.cellsOf 2 = 1 := by kernel_rfl
  simp [cellsRule, Try.underlying160, c9, c2, Program.keyLits, Try.underlying9, Try.underlying2, hm, ha, hb, List.mapM_cons]
theorem keyOf_rule {r : GRule} (h : KeyOk r) : ∃ l, keyOf Try.prog 160 (keyV r) = some l := by
  obtain ⟨h1, h2, h3⟩ := h
  have hw1 : (Lit.int .i64 r.left).wf = true := WalkArith.wf_i64 h2
  have hw2 : (Lit.int .i64 r.right).wf = true := WalkArith.wf_i64 h3
  obtain ⟨D, hD⟩ : ∃ D, Try.prog.types.size + 1 = D + 2 := ⟨Try.prog.types.size - 1, by have h9 : 1 < Try.prog.types.size := Nat.lt_of_le_of_lt (by decide) rowRule; omega⟩
  have hk : Try.prog.keyType 160 = true := by kernel_rfl
  have hlits := litsRule D r.letter r.left r.right h1 hw1 hw2
  rw [← hD] at hlits
  refine ⟨.string (keyBytes [.string r.letter.data.toList, .int .i64 r.left, .int .i64 r.right]), ?_⟩
  unfold keyOf keyV
  rw [Try.underlying160]
  have hc : (Value.agg #[.string r.letter, .int .i64 r.left, .int .i64 r.right]).cells.toList = [.string r.letter, .int .i64 r.left, .int .i64 r.right] := rfl
  show (if (Try.prog.keyType 160 && (Value.agg #[.string r.letter, .int .i64 r.left, .int .i64 r.right]).formed Try.prog 160) = true then
    (Try.prog.keyLits (Try.prog.types.size + 1) 160 (Value.agg #[.string r.letter, .int .i64 r.left, .int .i64 r.right]).cells.toList).map fun ls => Lit.string (keyBytes ls) else none) = _
  rw [hk, formedRule, hc, if_pos (show (true && true) = true from rfl), hlits]
  rfl

/-- A map of rules in block b: the first place of each rule of the list. -/
def RMap (w : World) (b : Nat) (ks : List GRule) : Prop :=
  ∃ es clock, w.heap[b]? = some (.map es clock) ∧ (∀ e ∈ es.toList, ∃ r, KeyOk r ∧ e.key = keyV r ∧ r ∈ ks ∧ e.val = .int .i64 (ks.idxOf r : Nat)) ∧ ∀ r ∈ ks, ∃ e ∈ es.toList, e.key = keyV r
section
variable {w w' : World} {b : Nat} {ks : List GRule} {r : GRule}
theorem RMap.lt (h : RMap w b ks) : b < w.heap.size := by
  obtain ⟨es, clock, hb, _⟩ := h
  exact (Array.getElem?_eq_some_iff.1 hb).1
theorem RMap.of_block (h : RMap w b ks) (hb : w'.heap[b]? = w.heap[b]?) : RMap w' b ks := by
  obtain ⟨es, clock, h0, h1, h2⟩ := h
  exact ⟨es, clock, hb.trans h0, h1, h2⟩
theorem RMap.kept {row : Option Nat} (h : RMap w b ks) (hg : w.grownBy w' row) (hne : some b ≠ row) : RMap w' b ks := h.of_block (hg.block b h.lt hne)
theorem RMap.alloc (h : RMap w b ks) (o : Obj) : RMap (w.alloc o) b ks := h.kept (World.grownBy_alloc w o none) (by simp)
theorem RMap.drew (h : RMap w b ks) : RMap w.drew b ks := h
theorem RMap.below {N : Nat} (h : RMap w b ks) (hb : Below N w w') (hlt : b < N) : RMap w' b ks := h.of_block (hb.block b hlt)
theorem RMap.same (h : RMap w b ks) (hr : r ∈ ks) : RMap w b (ks ++ [r]) := by
  obtain ⟨es, clock, h0, h1, h2⟩ := h
  refine ⟨es, clock, h0, fun e he => ?_, fun s hs => ?_⟩
  · obtain ⟨s, a1, a2, a3, a4⟩ := h1 e he
    exact ⟨s, a1, a2, by simp [a3], by rw [List.idxOf_append, if_pos a3]; exact a4⟩
  · rcases List.mem_append.1 hs with hs | hs
    · exact h2 s hs
    · rw [List.mem_singleton] at hs; subst hs; exact h2 s hr
theorem RMap.find (h : RMap w b ks) (hk : KeyOk r) : ∃ es clock, w.heap[b]? = some (.map es clock) ∧ (∀ e ∈ es.toList, ∃ r, KeyOk r ∧ e.key = keyV r ∧ r ∈ ks ∧ e.val = .int .i64 (ks.idxOf r : Nat)) ∧
    ((r ∉ ks ∧ (Instr.findKey 160 (keyV r) es.toList).run Try.prog w = .ok none w) ∨ (r ∈ ks ∧ ∃ j, (Instr.findKey 160 (keyV r) es.toList).run Try.prog w = .ok (some (j, .int .i64 (ks.idxOf r : Nat))) w)) := by
  obtain ⟨es, clock, h0, h1, h2⟩ := h
  obtain ⟨l, hl⟩ := keyOf_rule hk
  refine ⟨es, clock, h0, h1, ?_⟩
  rcases ruleKey.find w hl es.toList (fun e he => by
    obtain ⟨s, a1, a2, _⟩ := h1 e he
    rw [a2]; exact keyOf_rule a1) with ⟨f1, f2⟩ | ⟨j, e, f1, f2, f3⟩
  · refine .inl ⟨fun hr => ?_, f1⟩
    obtain ⟨e, he, hek⟩ := h2 r hr
    exact f2 e he hek
  · obtain ⟨s, a1, a2, a3, a4⟩ := h1 e (List.mem_of_getElem? f2)
    have : s = r := keyV_inj (a2.symm.trans f3)
    subst this
    exact .inr ⟨a3, j, by rw [← a4]; exact f1⟩
theorem RMap.no (h : RMap w b ks) (hk : KeyOk r) (hr : r ∉ ks) (c : Bool) :
    (Instr.lookup 205 (.map (some b)) (keyV r) c).run Try.prog w = .ok (if c then .tuple #[.int .i64 0, .bool false] else .int .i64 0) w := by
  obtain ⟨es, clock, h0, h1, h2⟩ := h.find hk
  obtain ⟨l, hl⟩ := keyOf_rule hk
  have hz : (zeroValue 2).run Try.prog w = .ok (.int .i64 0) w := by kernel_rfl
  rcases h2 with ⟨_, hj⟩ | ⟨hy, _⟩
  · simp [Instr.lookup, run_underlying Try.underlying205, MapKept.run_getObj_map h0, ruleKey.check w _ hl, hj, hz, Result.andThen]
  · exact absurd hy hr
open Go.ChangeMaps in
theorem RMap.put (h : RMap w b ks) (hk : KeyOk r) (hr : r ∉ ks) :
    ∃ w', (Instr.mapUpdate 205 (.map (some b)) (keyV r) (.int .i64 (ks.length : Nat))).run Try.prog w = .ok () w' ∧ RMap w' b (ks ++ [r]) ∧ w.grownBy w' (some b) := by
  have h' := h
  obtain ⟨es0, clock0, g0, g1, g2⟩ := h'
  obtain ⟨es, clock, h0, h1, h2⟩ := h.find hk
  obtain ⟨l, hl⟩ := keyOf_rule hk
  have he : es0 = es ∧ clock0 = clock := by
    rw [g0] at h0
    have := Option.some.inj h0
    exact ⟨by injection this, by injection this⟩
  obtain ⟨rfl, rfl⟩ := he
  rcases h2 with ⟨_, hj⟩ | ⟨hy, _⟩
  · refine ⟨setBlock w b (.map (es0.push ⟨keyV r, .int .i64 (ks.length : Nat), clock0⟩) (clock0 + 1)), ?_, ⟨_, _, heap_setBlock_same g0 _, ?_, ?_⟩, ⟨rfl, rfl, rfl, by simp [setBlock], fun i _ hi => heap_setBlock_other g0 _ (fun e => hi (by rw [e]))⟩⟩
    · simp [Instr.mapUpdate, run_underlying Try.underlying205, MapKept.run_getObj_map g0, ruleKey.check w false hl, hj, MapKept.run_setObj_map _ g0, Result.andThen, setBlock]
    · intro e he
      simp only [Array.toList_push, List.mem_append, List.mem_singleton] at he
      rcases he with he | rfl
      · obtain ⟨s, a1, a2, a3, a4⟩ := g1 e he
        exact ⟨s, a1, a2, by simp [a3], by rw [List.idxOf_append, if_pos a3]; exact a4⟩
      · exact ⟨r, hk, rfl, by simp, by rw [List.idxOf_append, if_neg hr]; simp⟩
    · intro s hs
      simp only [Array.toList_push, List.mem_append, List.mem_singleton]
      rcases List.mem_append.1 hs with hs | hs
      · obtain ⟨e, he, hek⟩ := g2 s hs
        exact ⟨e, .inl he, hek⟩
      · rw [List.mem_singleton] at hs; subst hs; exact ⟨_, .inr rfl, rfl⟩
  · exact absurd hy hr
end
end Go.Proofs.Ytfapnipmgmpgaaa

namespace Go.Proofs.Ytfapnipmgmpgaaa
open Go.RowKit

theorem gram_lens {xs : List GRule} (h : gramOk xs = true) : xs.length ≤ 400 ∧ ∃ ls, lens xs = some ls := by
  simp only [gramOk, Bool.and_eq_true, decide_eq_true_eq] at h
  exact ⟨h.1, Option.isSome_iff_exists.1 h.2⟩
end Go.Proofs.Ytfapnipmgmpgaaa

namespace Go.Proofs.Ytfapnipmgmpgaaa
open Go.RowKit

theorem Boxed.up {w w' : World} {B N : Nat} {t : TypeId} {v : Value} (h : Boxed w B t v) (hb : Below N w w') (hlt : B < N) : Boxed w' B t v := (hb.block B hlt).trans h
theorem Boxed.grown {w w' : World} {B base e s n : Nat} {t : TypeId} {v : Value} {xs : List Value} {o : Obj} (h : Boxed w B t v) (hte : t ≠ e) (own : w.ownsRow base e s v n xs) (hg : (w.alloc o).grownBy w' v.ownBlock) : Boxed w' B t v := (h.alloc o).kept hg (h.not_row hte own)

end Go.Proofs.Ytfapnipmgmpgaaa

namespace Go.Proofs.Ytfapnipmgmpgaaa
open Go.RowKit

end Go.Proofs.Ytfapnipmgmpgaaa

namespace Go.Proofs.Ytfapnipmgmpgaaa
open Go.RowKit

/-- Three cells of a rule in a block. -/
def Cells3 (w : World) (B : Nat) (r : GRule) : Prop := w.cell? ⟨B, 0, none⟩ = some (.string r.letter) ∧ w.cell? ⟨B, 1, none⟩ = some (.int .i64 r.left) ∧ w.cell? ⟨B, 2, none⟩ = some (.int .i64 r.right) ∧ B < w.heap.size
theorem Cells3.below {w w' : World} {B N : Nat} {r : GRule} (h : Cells3 w B r) (hb : Below N w w') (hlt : B < N) : Cells3 w' B r :=
  ⟨(hb.cell (p := ⟨B, 0, none⟩) hlt).trans h.1, (hb.cell (p := ⟨B, 1, none⟩) hlt).trans h.2.1, (hb.cell (p := ⟨B, 2, none⟩) hlt).trans h.2.2.1, Nat.lt_of_lt_of_le h.2.2.2 hb.size⟩
theorem Cells3.kept {w w' : World} {B : Nat} {r : GRule} {row : Option Nat} (h : Cells3 w B r) (hg : w.grownBy w' row) (hne : some B ≠ row) : Cells3 w' B r :=
  ⟨(World.cell?_of_block (a := ⟨B, 0, none⟩) (hg.block B h.2.2.2 hne)).trans h.1, (World.cell?_of_block (a := ⟨B, 1, none⟩) (hg.block B h.2.2.2 hne)).trans h.2.1, (World.cell?_of_block (a := ⟨B, 2, none⟩) (hg.block B h.2.2.2 hne)).trans h.2.2.1, Nat.lt_of_lt_of_le h.2.2.2 hg.size⟩
theorem keptc {W w' : World} {row : Option Nat} {N o : Nat} {u : Value} (hg : W.grownBy w' row) (hc : W.cell? ⟨N, o, none⟩ = some u) (hlt : N < W.heap.size) (hne : some N ≠ row) : w'.cell? ⟨N, o, none⟩ = some u :=
  (World.cell?_of_block (a := ⟨N, o, none⟩) (hg.block N hlt hne)).trans hc
theorem own_block {w : World} {base e s n : Nat} {v : Value} {xs : List Value} (h : w.ownsRow base e s v n xs) {g : Nat} (hg : v.ownBlock = some g) : ∃ cur, w.heap[g]? = some (.cells cur e (0, 0)) := by
  rcases h.2 with ⟨rfl, _⟩ | ⟨g', cap, cur, rfl, _, hb, _⟩
  · cases hg
  · have : g' = g := by simpa [Value.ownBlock] using hg
    subst this; exact ⟨cur, hb⟩
/-- What the first loop of a trimming holds: two rows, a map, a rule in a box. -/
structure T3 (w0 : World) (base bm bx : Nat) (X : GRule) (ks : List GRule) (W : World) (v4 : Value) (K : List GRule) (v6 : Value) (S : List Int) : Prop where
  below : Below base w0 W
  rows : OwnRules W base v4 K
  ints : OwnInts W base v6 S
  mp : RMap W bm ks
  box : Cells3 W bx X
  bxR : some bx ≠ v4.ownBlock
  bxI : some bx ≠ v6.ownBlock
  lb : base ≤ W.heap.size
section
variable {w0 W : World} {base bm bx : Nat} {X : GRule} {ks K : List GRule} {v4 v6 : Value} {S : List Int}
theorem T3.alloc (h : T3 w0 base bm bx X ks W v4 K v6 S) (o : Obj) : T3 w0 base bm bx X ks (W.alloc o) v4 K v6 S :=
  ⟨h.below.alloc h.lb _, h.rows.alloc _, h.ints.alloc _, h.mp.alloc _, h.box.below ((Below.refl W.heap.size W).alloc (Nat.le_refl _) o) h.box.2.2.2, h.bxR, h.bxI, by have := h.lb; simp; omega⟩
theorem T3.drew (h : T3 w0 base bm bx X ks W v4 K v6 S) : T3 w0 base bm bx X ks W.drew v4 K v6 S :=
  ⟨Below.drew h.below, h.rows, h.ints, h.mp, h.box, h.bxR, h.bxI, h.lb⟩
end

theorem Cells3.new {W : World} {N : Nat} {r : GRule} (hN : N = W.heap.size) : Cells3 (W.alloc (.cells #[.string r.letter, .int .i64 r.left, .int .i64 r.right] 160)) N r := by
  subst hN
  refine ⟨?_, ?_, ?_, by simp⟩ <;> simp [go_sem]
theorem Cells3.alloc {W : World} {N : Nat} {r : GRule} (h : Cells3 W N r) (o : Obj) : Cells3 (W.alloc o) N r := h.below ((Below.refl W.heap.size W).alloc (Nat.le_refl _) o) h.2.2.2
theorem Cells3.drew {W : World} {N : Nat} {r : GRule} (h : Cells3 W N r) : Cells3 W.drew N r := h
/-- A number in a block. -/
def Cell1 (w : World) (B : Nat) (q : Int) : Prop := w.cell? ⟨B, 0, none⟩ = some (.int .i64 q) ∧ B < w.heap.size
theorem Cell1.new {W : World} {N : Nat} {q : Int} (hN : N = W.heap.size) : Cell1 (W.alloc (.cells #[.int .i64 q] 2)) N q := by
  subst hN
  exact ⟨by simp [go_sem], by simp⟩
theorem Cell1.alloc {W : World} {N : Nat} {q : Int} (h : Cell1 W N q) (o : Obj) : Cell1 (W.alloc o) N q :=
  ⟨(((Below.refl W.heap.size W).alloc (Nat.le_refl _) o).cell (p := ⟨N, 0, none⟩) h.2).trans h.1, by have := h.2; simp; omega⟩
theorem Cell1.drew {W : World} {N : Nat} {q : Int} (h : Cell1 W N q) : Cell1 W.drew N q := h
theorem Cell1.kept {w w' : World} {B : Nat} {q : Int} {row : Option Nat} (h : Cell1 w B q) (hg : w.grownBy w' row) (hne : some B ≠ row) : Cell1 w' B q := ⟨keptc hg h.1 h.2 hne, Nat.lt_of_lt_of_le h.2 hg.size⟩
/-- A row of booleans in a block. -/
def RowB (w : World) (b : Nat) (N : List Bool) : Prop := w.rowIs b 4 N.length fun i => .bool (N.getD i false)
/-- A row of numbers in a block. -/
def RowI (w : World) (b : Nat) (l : List Int) : Prop := w.rowIs b 2 l.length fun i => .int .i64 (l.getD i 0)
section
variable {w w' : World} {b : Nat} {N : List Bool} {l : List Int}
theorem RowB.set (h : RowB w b N) (i : Nat) (x : Bool) : RowB (w.setCell ⟨b, i, none⟩ (.bool x)) b (N.set i x) := by
  have h2 := World.rowIs.set h i (.bool x)
  unfold RowB; rw [List.length_set]
  exact h2.congr fun j hj => by
    by_cases e : j = i
    · subst e; simp [List.getD_eq_getElem?_getD, hj]
    · simp [e, List.getD_eq_getElem?_getD, Ne.symm e]
theorem RowI.set (h : RowI w b l) (i : Nat) (x : Int) : RowI (w.setCell ⟨b, i, none⟩ (.int .i64 x)) b (l.set i x) := by
  have h2 := World.rowIs.set h i (.int .i64 x)
  unfold RowI; rw [List.length_set]
  exact h2.congr fun j hj => by
    by_cases e : j = i
    · subst e; simp [List.getD_eq_getElem?_getD, hj]
    · simp [e, List.getD_eq_getElem?_getD, Ne.symm e]
theorem RowB.lt (h : RowB w b N) : b < w.heap.size := World.rowIs.lt h
theorem RowI.lt (h : RowI w b l) : b < w.heap.size := World.rowIs.lt h
theorem RowB.cell (h : RowB w b N) {i : Nat} (hi : i < N.length) : w.cell? ⟨b, i, none⟩ = some (.bool (N.getD i false)) := World.rowIs.cell h hi
theorem RowI.cell (h : RowI w b l) {i : Nat} (hi : i < l.length) : w.cell? ⟨b, i, none⟩ = some (.int .i64 (l.getD i 0)) := World.rowIs.cell h hi
theorem RowB.frozen (h : RowB w b N) (i : Nat) : w.frozen? ⟨b, i, none⟩ = false := World.rowIs.frozen h i
theorem RowI.frozen (h : RowI w b l) (i : Nat) : w.frozen? ⟨b, i, none⟩ = false := World.rowIs.frozen h i
theorem RowB.alloc (h : RowB w b N) (o : Obj) : RowB (w.alloc o) b N := World.rowIs.alloc h o
theorem RowI.alloc (h : RowI w b l) (o : Obj) : RowI (w.alloc o) b l := World.rowIs.alloc h o
theorem RowB.drew (h : RowB w b N) : RowB w.drew b N := h
theorem RowI.drew (h : RowI w b l) : RowI w.drew b l := h
theorem RowB.below {M : Nat} (h : RowB w b N) (hb : Below M w w') (hlt : b < M) : RowB w' b N := World.rowIs.of_block h (hb.block b hlt)
theorem RowI.below {M : Nat} (h : RowI w b l) (hb : Below M w w') (hlt : b < M) : RowI w' b l := World.rowIs.of_block h (hb.block b hlt)
theorem RowI.kept {row : Option Nat} (h : RowI w b l) (hg : w.grownBy w' row) (hne : some b ≠ row) : RowI w' b l := World.rowIs.of_block h (hg.block b h.lt hne)
theorem RowI.other (h : RowI w b l) {c o : Nat} (hne : b ≠ c) (u : Value) : RowI (w.setCell ⟨c, o, none⟩ u) b l := World.rowIs.setOther h hne u
theorem RowI.not_row {base e s n : Nat} {v : Value} {xs : List Value} (h : RowI w b l) (h' : w.ownsRow base e s v n xs) (hne : 2 ≠ e) : some b ≠ v.ownBlock := fun hb => by
  obtain ⟨c, h1⟩ := own_block h' hb.symm
  obtain ⟨c2, h2, _⟩ := h
  rw [h1] at h2
  have := Option.some.inj h2
  injection this with _ h3; exact hne h3.symm
end
end Go.Proofs.Ytfapnipmgmpgaaa

namespace Go.Proofs.Ytfapnipmgmpgaaa
open Go.RowKit

def nI (l : List Nat) : List Int := l.map Int.ofNat
end Go.Proofs.Ytfapnipmgmpgaaa

namespace Go.Proofs.Ytfapnipmgmpgaaa
open Go.RowKit

/-- The closure's cover: a box that holds the pieces met so far. -/
def CJ (bc base : Nat) (C : Nat → Prop) (s : List Nat) (w : World) : Prop :=
  ∃ v, Boxed w bc 65 v ∧ OwnInts w base v (nI s) ∧ base ≤ w.heap.size ∧ ¬ C bc ∧ ∀ g, v.ownBlock = some g → ¬ C g
end Go.Proofs.Ytfapnipmgmpgaaa

namespace Go.Proofs.Ytfapnipmgmpgaaa
open Go.RowKit

end Go.Proofs.Ytfapnipmgmpgaaa

namespace Go.Proofs.Ytfapnipmgmpgaaa
open Go.RowKit

theorem Row.take {α : Type} {E : Enc α} {w : World} {S : Nat → Prop} {A : Option Addr} {xs : List α} (h : Row E w S A xs) (m : Nat) : Row E w S A (xs.take m) := fun hn => by
  obtain ⟨b, o, rfl, hlt, hc⟩ := h (by simp at hn; omega)
  refine ⟨b, o, rfl, hlt, fun k x hx => hc k x ?_⟩
  rw [List.getElem?_take] at hx
  split at hx
  · exact hx
  · cases hx
end Go.Proofs.Ytfapnipmgmpgaaa

namespace Go.Proofs.Ytfapnipmgmpgaaa
open Go.RowKit

end Go.Proofs.Ytfapnipmgmpgaaa

namespace Go.Proofs.Ytfapnipmgmpgaaa
open Go.RowKit

end Go.Proofs.Ytfapnipmgmpgaaa

namespace Go.Proofs.Ytfapnipmgmpgaaa
open Go.RowKit

end Go.Proofs.Ytfapnipmgmpgaaa

namespace Go.Proofs.Ytfapnipmgmpgaaa

/-- The letters of a rule's word. -/
def wordR (xs : List GRule) : Nat → Nat → List UInt8
  | 0, _ => []
  | f + 1, r => if (getR xs r).pair then wordR xs f (getR xs r).left.toNat ++ wordR xs f (getR xs r).right.toNat else (getR xs r).letter.data.toList
def W1 (xs : List GRule) (r : Nat) : List UInt8 := wordR xs (r + 1) r
end Go.Proofs.Ytfapnipmgmpgaaa

namespace Go.Proofs.Ytfapnipmgmpgaaa

theorem set_ne {α : Type} {l : List α} {i x : Nat} {v d : α} (h : i ≠ x) : (l.set i v).getD x d = l.getD x d := by
  rw [List.getD_eq_getElem?_getD, List.getElem?_set, if_neg h, ← List.getD_eq_getElem?_getD]
structure OutOk (xs ks : List GRule) (need : List Bool) (k : Nat) (p : List GRule × List Int) : Prop where
  l2 : p.2.length = xs.length
  pos : ∀ i, i < k → need.getD i false = true → 0 ≤ p.2.getD i 0 ∧ (p.2.getD i 0).toNat < p.1.length
  ok : OkAll p.1
  word : ∀ i, i < k → need.getD i false = true → W1 p.1 (p.2.getD i 0).toNat = W1 ks i
  from_ : ∀ a, a < p.1.length → ∃ i, i < k ∧ need.getD i false = true ∧ (p.2.getD i 0).toNat = a
end Go.Proofs.Ytfapnipmgmpgaaa

namespace Go.Proofs.Ytfapnipmgmpgaaa
open Go.RowKit

end Go.Proofs.Ytfapnipmgmpgaaa

namespace Go.Proofs.Ytfapnipmgmpgaaa

def ltr (k : Nat) : UInt8 := UInt8.ofNat (97 + k)
def letR (c : UInt8) : GRule := ⟨⟨#[c]⟩, 0, 0⟩
def hasC (w : ByteArray) (c : UInt8) : Bool := w.data.toList.contains c
/-- The letters of a word, in their order. -/
def letsG (w : ByteArray) (k : Nat) : List GRule := ((List.range k).filter (fun j => hasC w (ltr j))).map fun j => letR (ltr j)
def idxG (w : ByteArray) (c : UInt8) : Nat := (letsG w 4).idxOf (letR c)
end Go.Proofs.Ytfapnipmgmpgaaa

namespace Go.Proofs
open Go.Shelf Go.RowKit
end Go.Proofs

namespace Go.Proofs.Ytfapnipmgmpgaaa
open Go.RowKit

/-- An own row of bytes. -/
def OwnB (w : World) (base : Nat) (v : Value) (l : List UInt8) : Prop := w.ownsRow base 5 1 v l.length (Lib.byteCells l)
theorem OwnB.alloc {w : World} {base : Nat} {v : Value} {l : List UInt8} (h : OwnB w base v l) (o : Obj) : OwnB (w.alloc o) base v l := World.ownsRow.alloc h o
theorem OwnB.drew {w : World} {base : Nat} {v : Value} {l : List UInt8} (h : OwnB w base v l) : OwnB w.drew base v l := h
theorem OwnB.below {w w' : World} {base : Nat} {v : Value} {l : List UInt8} (h : OwnB w base v l) (hb : Below w.heap.size w w') : OwnB w' base v l := ownsRow_below h hb
theorem OwnB.empty {w : World} {base N : Nat} (hN : N = w.heap.size) (hb : base ≤ w.heap.size) : OwnB (w.alloc (Obj.cells #[] 5)) base (Value.slice (some ⟨N, 0, none⟩) 0 0) [] := by
  subst hN
  exact World.ownsRow_lit w #[] 0 hb (Nat.zero_le _) rfl
/-- The cells of an own row of bytes. -/
theorem OwnB.at_ {w : World} {base : Nat} {v : Value} {l : List UInt8} (h : OwnB w base v l) (h0 : 0 < l.length) : ∃ g cap, v = .slice (some ⟨g, 0, none⟩) l.length cap ∧ l.length ≤ cap ∧ g < w.heap.size ∧ ∀ t (ht : t < l.length), w.cell? ⟨g, t, none⟩ = some (.int .u8 (l[t].toNat : Int)) := by
  obtain ⟨g, cap, hv, hb, hlt, hc, hcell⟩ := own_form h h0
  exact ⟨g, cap, hv, hc.1, hlt, fun t ht => hcell t _ (by simp [Lib.byteCells, List.getElem?_eq_getElem ht])⟩
/-- A string of bytes at an address. -/
theorem convB (L : List UInt8) (b p n c : Nat) (W : World) (hn : n = L.length) (h : ∀ t (ht : t < L.length), W.cell? ⟨b, p + t, none⟩ = some (.int .u8 (L[t].toNat : Int))) :
    (convert 56 9 (.slice (some ⟨b, p, none⟩) n c)).run Try.prog W = .ok (.string ⟨L.toArray⟩) W := by
  subst hn
  exact run_convert_bytes_back (P := Try.prog) W 56 9 5 ⟨b, p, none⟩ c L Try.underlying56 Try.underlying5 Try.underlying9 (fun j hj => by
    have e : (⟨b, p, none⟩ : Addr).add j = ⟨b, p + j, none⟩ := by unfold Addr.add; split <;> simp_all
    rw [e]; exact h j hj)
theorem OwnB.string {w : World} {base n : Nat} {g : Nat} {c : Nat} {l : List UInt8} (h : OwnB w base (.slice (some ⟨g, 0, none⟩) n c) l) :
    (convert 56 9 (.slice (some ⟨g, 0, none⟩) n c)).run Try.prog w = .ok (.string ⟨l.toArray⟩) w := by
  have hn : n = l.length := by
    obtain ⟨A', c', hv, _⟩ := own_nil h
    injection hv
  refine convB l g 0 n c w hn fun t ht => ?_
  obtain ⟨g', cap, hv, _, _, hc⟩ := h.at_ (by omega)
  injection hv with e1 e2 e3
  injection e1 with e1
  injection e1 with e1
  subst e1
  rw [Nat.zero_add]; exact hc t ht
end Go.Proofs.Ytfapnipmgmpgaaa

namespace Go.Proofs.Ytfapnipmgmpgaaa
open Go.RowKit

end Go.Proofs.Ytfapnipmgmpgaaa

namespace Go.Proofs.Ytfapnipmgmpgaaa
open Go.RowKit

end Go.Proofs.Ytfapnipmgmpgaaa

namespace Go.Proofs.Ytfapnipmgmpgaaa
open Go.RowKit

end Go.Proofs.Ytfapnipmgmpgaaa

namespace Go.Proofs.Ytfapnipmgmpgaaa

structure BaseOk (k : Nat) (p : List GRule × List Int) : Prop where
  ok : OkAll p.1
  len : p.1.length ≤ 2004 * k
  l4 : p.2.length = 4
  low : ∀ i, i < 4 → -1 ≤ p.2.getD i 0 ∧ p.2.getD i 0 < p.1.length
theorem getD_set {l : List Int} {i j : Nat} {v : Int} (hi : i < l.length) : (l.set i v).getD j 0 = if i = j then v else l.getD j 0 := by
  by_cases h : i = j
  · subst h; rw [if_pos rfl, List.getD_eq_getElem?_getD, List.getElem?_set, if_pos rfl, if_pos hi]; rfl
  · rw [if_neg h]; exact set_ne h
structure StandOk (B k : Nat) (p : List GRule × List Int) : Prop where
  ok : OkAll p.1
  len : p.1.length ≤ B + k
  ls : p.2.length = k
  low : ∀ i, i < k → -1 ≤ p.2.getD i 0 ∧ p.2.getD i 0 < p.1.length
end Go.Proofs.Ytfapnipmgmpgaaa

namespace Go.Proofs.Ytfapnipmgmpgaaa
open Go.RowKit

end Go.Proofs.Ytfapnipmgmpgaaa

namespace Go.Proofs
open Go.Shelf Go.RowKit
end Go.Proofs

namespace Go.Proofs.Ytfapnipmgmpgaaa
open Go.RowKit

end Go.Proofs.Ytfapnipmgmpgaaa

namespace Go.Proofs.Ytfapnipmgmpgaaa
open Go.RowKit

end Go.Proofs.Ytfapnipmgmpgaaa

namespace Go.Proofs.Ytfapnipmgmpgaaa
open Go.RowKit

/-- An iterator over a string lies in a block. -/
def Iter (W : World) (K : Nat) (s : ByteArray) (pos : Nat) : Prop := W.heap[K]? = some (.stringIter s pos)
theorem Iter.lt {W : World} {K : Nat} {s : ByteArray} {pos : Nat} (h : Iter W K s pos) : K < W.heap.size := (Array.getElem?_eq_some_iff.1 h).1
theorem Iter.up {w w' : World} {K N : Nat} {s : ByteArray} {pos : Nat} (h : Iter w K s pos) (hb : Below N w w') (hlt : K < N) : Iter w' K s pos := (hb.block K hlt).trans h
theorem Iter.not_row {w : World} {K : Nat} {s : ByteArray} {pos : Nat} (h : Iter w K s pos) {base e sz n : Nat} {v : Value} {xs : List Value} (own : w.ownsRow base e sz v n xs) : some K ≠ v.ownBlock := by
  intro he
  rcases own.2 with ⟨hn, _⟩ | ⟨g, cap, cur, rfl, hb, hgg, rest⟩
  · rw [hn] at he; cases he
  · have : g = K := by
      have : some g = some K := he.symm ▸ rfl
      injection this
    subst this
    rw [h] at hgg; cases hgg
theorem Iter.grown {w w' : World} {K base e sz n : Nat} {s : ByteArray} {pos : Nat} {v : Value} {xs : List Value} {o : Obj} (h : Iter w K s pos) (own : w.ownsRow base e sz v n xs) (hg : (w.alloc o).grownBy w' v.ownBlock) : Iter w' K s pos := by
  have h1 : Iter (w.alloc o) K s pos := h.up ((Below.refl w.heap.size w).alloc (Nat.le_refl _) o) h.lt
  exact (hg.block K h1.lt (h.not_row own)).trans h1
theorem Iter.set {w : World} {K B : Nat} {s : ByteArray} {pos : Nat} (h : Iter w K s pos) (hne : K ≠ B) (v : Value) : Iter (w.setCell ⟨B, 0, none⟩ v) K s pos := (heap_setCell_other w ⟨B, 0, none⟩ K v hne).trans h

end Go.Proofs.Ytfapnipmgmpgaaa

namespace Go.Proofs.Ytfapnipmgmpgaaa
open Go.RowKit

end Go.Proofs.Ytfapnipmgmpgaaa

namespace Go.Proofs.Ytfapnipmgmpgaaa
open Go.RowKit

end Go.Proofs.Ytfapnipmgmpgaaa

namespace Go.Proofs.Ytfapnipmgmpgaaa
open Go.RowKit

end Go.Proofs.Ytfapnipmgmpgaaa

namespace Go.Proofs.Ytfapnipmgmpgaaa
open Go.RowKit

/-- The cells of an edit. -/
def editCells (e : GEdit) (vR : Value) : Array Value := #[.int .i64 e.kind, .int .i64 e.i, .int .i64 e.j, .int .i64 e.k, vR, .string e.map]
theorem gram_len400 {p : List GRule} (h : gramOk p = true) : p.length ≤ 400 := (gram_lens h).1
end Go.Proofs.Ytfapnipmgmpgaaa

