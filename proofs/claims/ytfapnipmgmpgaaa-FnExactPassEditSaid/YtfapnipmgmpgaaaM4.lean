import Derived.Test.YtfapnipmgmpgaaaM3
import Derived.Test.YtfapnipmgmpgaaaM2
import Derived.Test.YtfapnipmgmpgaaaM1
namespace Go.Proofs.Ytfapnipmgmpgaaa
open Go.RowKit

/-- The six cells of an edit. -/
def epCells (p : GEdit × Value) : List Value := [.int .i64 p.1.kind, .int .i64 p.1.i, .int .i64 p.1.j, .int .i64 p.1.k, p.2, .string p.1.map]
theorem set6 (ps : List (GEdit × Value)) (k : Nat) (p : GEdit × Value) (h : k < ps.length) :
    ((((((ps.flatMap epCells).set (k * 6) (.int .i64 p.1.kind)).set (k * 6 + 1) (.int .i64 p.1.i)).set (k * 6 + 2) (.int .i64 p.1.j)).set (k * 6 + 3) (.int .i64 p.1.k)).set (k * 6 + 4) p.2).set (k * 6 + 5) (.string p.1.map) = (ps.set k p).flatMap epCells := by
  induction ps generalizing k with
  | nil => simp at h
  | cons x xs ih =>
    cases k with
    | zero => simp [epCells]
    | succ k =>
      have := ih k (by simpa using h)
      simp only [List.flatMap_cons, List.set_cons_succ]
      have e : (epCells x).length = 6 := rfl
      rw [List.set_append, if_neg (by omega), e, List.set_append, if_neg (by omega), e, List.set_append, if_neg (by omega), e, List.set_append, if_neg (by omega), e, List.set_append, if_neg (by omega), e, List.set_append, if_neg (by omega), e]
      rw [show (k+1)*6-6 = k*6 by omega, show (k+1)*6+1-6 = k*6+1 by omega, show (k+1)*6+2-6 = k*6+2 by omega, show (k+1)*6+3-6 = k*6+3 by omega, show (k+1)*6+4-6 = k*6+4 by omega, show (k+1)*6+5-6 = k*6+5 by omega, this]
theorem ep_at (ps : List (GEdit × Value)) (k : Nat) (p : GEdit × Value) (h : ps[k]? = some p) (j : Nat) (hj : j < 6) : (ps.flatMap epCells)[k * 6 + j]? = (epCells p)[j]? := by
  induction ps generalizing k with
  | nil => simp at h
  | cons x xs ih =>
    cases k with
    | zero =>
      simp at h; subst h
      rw [List.flatMap_cons, List.getElem?_append_left (by simp [epCells]; omega), Nat.zero_mul, Nat.zero_add]
    | succ k =>
      have := ih k (by simpa using h)
      rw [List.flatMap_cons, List.getElem?_append_right (by simp [epCells]; omega)]
      rw [show (k + 1) * 6 + j - (epCells x).length = k * 6 + j by simp [epCells]; omega]
      exact this
theorem set_same {α : Type} {l : List α} {k : Nat} {x : α} (h : l[k]? = some x) : l.set k x = l := by
  apply List.ext_getElem?
  intro i
  by_cases hi : k = i
  · subst hi
    rw [List.getElem?_set_self (List.getElem?_eq_some_iff.1 h).1, h]
  · rw [List.getElem?_set_ne hi]
theorem set5 (ps : List (GEdit × Value)) (k : Nat) (p q : GEdit × Value) (hq : ps[k]? = some q) (h2 : q.2 = p.2) :
    (((((ps.flatMap epCells).set (k * 6) (.int .i64 p.1.kind)).set (k * 6 + 1) (.int .i64 p.1.i)).set (k * 6 + 2) (.int .i64 p.1.j)).set (k * 6 + 3) (.int .i64 p.1.k)).set (k * 6 + 5) (.string p.1.map) = (ps.set k p).flatMap epCells := by
  have hk : k < ps.length := (List.getElem?_eq_some_iff.1 hq).1
  rw [← set6 ps k p hk]
  congr 1
  refine (set_same ?_).symm
  rw [List.getElem?_set_ne (by omega), List.getElem?_set_ne (by omega), List.getElem?_set_ne (by omega), List.getElem?_set_ne (by omega), ep_at ps k q hq 4 (by omega), ← h2]; rfl

/-- The rules of one edit of a row: nothing, or a row of its own between two numbers, apart from the row of edits v. -/
def PartAt (w : World) (v : Value) (a b : Nat) (p : GEdit × Value) : Prop :=
  ((p.1.part = [] ∧ ∃ A c, p.2 = .slice A 0 c ∧ c ≤ maxLen) ∨ OwnR w a b p.2 p.1.part) ∧ ∀ g, v.ownBlock = some g → g < a ∨ b ≤ g
theorem PartAt.keep {w w' : World} {v : Value} {a b : Nat} {p : GEdit × Value} (h : PartAt w v a b p) (hk : ∀ g, a ≤ g → g < b → w'.heap[g]? = w.heap[g]?) (hs : w.heap.size ≤ w'.heap.size) : PartAt w' v a b p := by
  refine ⟨?_, h.2⟩
  rcases h.1 with h | h1
  · exact .inl h
  · exact .inr ⟨own_keep h1.1 fun g hg => hk g (h1.rng g hg).1 (h1.rng g hg).2, h1.2.1, Nat.le_trans h1.2.2 hs⟩
theorem PartAt.row {w w' : World} {v : Value} {a b g : Nat} {p : GEdit × Value} (h : PartAt w v a b p) (hv : v.ownBlock = some g) (hb : b ≤ w.heap.size) (hg : w.grownBy w' (some g)) : PartAt w' v a b p :=
  h.keep (fun g' h1 h2 => hg.block g' (by omega) (fun e => by have := h.2 g hv; simp at e; omega)) hg.size
theorem PartAt.sl {w : World} {v : Value} {a b : Nat} {p : GEdit × Value} (h : PartAt w v a b p) : Sl RuleE w w.heap.size p.2 p.1.part := by
  rcases h.1 with ⟨h1, A, c, h2, h3⟩ | h1
  · rw [h1, h2]; exact ⟨A, c, rfl, Nat.zero_le _, h3, fun h => absurd h (by simp)⟩
  · exact h1.sl
structure PartsR (w : World) (v : Value) (lo hi : Nat) (r : Nat → Nat) (ps : List (GEdit × Value)) : Prop where
  low : lo ≤ r 0
  mono : ∀ i j, i ≤ j → r i ≤ r j
  high : ∀ i, r i ≤ hi
  at_ : ∀ i p, ps[i]? = some p → PartAt w v (r (2 * i)) (r (2 * i + 1)) p
theorem PartsR.keep {w w' : World} {v : Value} {lo hi : Nat} {r : Nat → Nat} {ps : List (GEdit × Value)} (h : PartsR w v lo hi r ps) (hk : ∀ g, lo ≤ g → g < hi → v.ownBlock ≠ some g → w'.heap[g]? = w.heap[g]?) (hs : w.heap.size ≤ w'.heap.size) : PartsR w' v lo hi r ps := by
  refine ⟨h.low, h.mono, h.high, fun i p hp => ?_⟩
  obtain ⟨h0, h2⟩ := h.at_ i p hp
  refine ⟨?_, h2⟩
  rcases h0 with h1 | h1
  · exact .inl h1
  · refine .inr ⟨own_keep h1.1 fun g hg => ?_, h1.2.1, Nat.le_trans h1.2.2 hs⟩
    have hr := h1.rng g hg
    have a1 := h.mono 0 (2 * i) (Nat.zero_le _)
    have a2 := h.high (2 * i + 1)
    have a3 := h.low
    refine hk g (by omega) (by omega) fun e => ?_
    have := h2 g e
    omega
theorem PartsR.mark {w w' : World} {v : Value} {lo hi : Nat} {r : Nat → Nat} {ps : List (GEdit × Value)} (h : PartsR w v lo hi r ps) (n : Nat) (q : GEdit × Value) (hq : PartAt w' v (r (2 * n)) (r (2 * n + 1)) q)
    (hk : ∀ g, g < w.heap.size → v.ownBlock ≠ some g → g < r (2 * n) ∨ r (2 * n + 1) ≤ g → w'.heap[g]? = w.heap[g]?) (hs : w.heap.size ≤ w'.heap.size) : PartsR w' v lo hi r (ps.set n q) := by
  refine ⟨h.low, h.mono, h.high, fun i p hp => ?_⟩
  by_cases hi' : n = i
  · subst hi'
    have : n < ps.length := by
      have := (List.getElem?_eq_some_iff.1 hp).1
      simpa using this
    rw [List.getElem?_set_self this] at hp
    cases hp; exact hq
  · rw [List.getElem?_set_ne hi'] at hp
    obtain ⟨h0, h2⟩ := h.at_ i p hp
    refine ⟨?_, h2⟩
    rcases h0 with h1 | h1
    · exact .inl h1
    · refine .inr ⟨own_keep h1.1 fun g hg => ?_, h1.2.1, Nat.le_trans h1.2.2 hs⟩
      have hr := h1.rng g hg
      refine hk g (by have := h1.2.2; omega) (fun e => by have := h2 g e; omega) ?_
      rcases Nat.lt_or_ge i n with hlt | hge
      · have := h.mono (2 * i + 1) (2 * n) (by omega); omega
      · have := h.mono (2 * n + 1) (2 * i) (by omega); omega
theorem PartsR.snoc {w : World} {v : Value} {lo hi hi' : Nat} {r : Nat → Nat} {ps : List (GEdit × Value)} {q : GEdit × Value} (h : PartsR w v lo hi r ps) (hq : PartAt w v hi hi' q) (hh : hi ≤ hi') (hl : lo ≤ hi) : ∃ r', PartsR w v lo hi' r' (ps ++ [q]) := by
  refine ⟨fun j => if j < 2 * ps.length then r j else if j = 2 * ps.length then hi else hi', ?_, ?_, ?_, ?_⟩
  · have := h.low
    split
    · omega
    · split <;> omega
  · intro i j hij
    have h1 := h.mono i j hij
    have h2 := h.high i
    repeat' split
    all_goals omega
  · intro i
    have h2 := h.high i
    repeat' split
    all_goals omega
  · intro i p hp
    rcases Nat.lt_or_ge i ps.length with hlt | hge
    · rw [List.getElem?_append_left hlt] at hp
      have := h.at_ i p hp
      simp only [show 2 * i < 2 * ps.length by omega, show 2 * i + 1 < 2 * ps.length by omega, if_true]
      exact this
    · rw [List.getElem?_append_right hge] at hp
      have hi0 : i = ps.length := by
        have := (List.getElem?_eq_some_iff.1 hp).1
        simp at this; omega
      subst hi0
      simp at hp
      subst hp
      simp only [Nat.lt_irrefl, if_false, if_true, show ¬ (2 * ps.length + 1 < 2 * ps.length) by omega, show ¬ (2 * ps.length + 1 = 2 * ps.length) by omega]
      exact hq
theorem PartsR.nil {w : World} {v : Value} {lo hi : Nat} (h : lo ≤ hi) : PartsR w v lo hi (fun _ => hi) [] := ⟨h, fun _ _ _ => Nat.le_refl _, fun _ => Nat.le_refl _, fun i p hp => by simp at hp⟩
theorem PartsR.le {w : World} {v : Value} {lo lo' hi hi' : Nat} {r : Nat → Nat} {ps : List (GEdit × Value)} (h : PartsR w v lo hi r ps) (h1 : lo' ≤ lo) (h2 : hi ≤ hi') : PartsR w v lo' hi' r ps := ⟨Nat.le_trans h1 h.low, h.mono, fun i => Nat.le_trans (h.high i) h2, h.at_⟩
/-- A row of edits of one's own, between two block numbers. -/
def OEds (w : World) (lo hi : Nat) (v : Value) (es : List GEdit) : Prop :=
  ∃ ps r, ps.map Prod.fst = es ∧ w.ownsRow lo 34 6 v es.length (ps.flatMap epCells) ∧ (∀ g, v.ownBlock = some g → g < hi) ∧ hi ≤ w.heap.size ∧ PartsR w v lo hi r ps
section
variable {w w' : World} {lo hi : Nat} {v : Value} {es : List GEdit}
theorem OEds.keep (h : OEds w lo hi v es) (hk : ∀ g, lo ≤ g → g < hi → w'.heap[g]? = w.heap[g]?) (hs : w.heap.size ≤ w'.heap.size) : OEds w' lo hi v es := by
  obtain ⟨ps, r, h1, h2, h3, h4, h5⟩ := h
  exact ⟨ps, r, h1, own_keep h2 fun g hg => hk g (World.ownsRow.lt h2 g hg).1 (h3 g hg), h3, Nat.le_trans h4 hs, h5.keep (fun g a b _ => hk g a b) hs⟩
theorem OEds.up (h : OEds w lo hi v es) (hb : Below w.heap.size w w') : OEds w' lo hi v es := h.keep (fun g _ b => hb.block g (by obtain ⟨_, _, _, _, _, h4, _⟩ := h; omega)) hb.size
theorem OEds.chg {lo' hi' : Nat} (h : OEds w lo hi v es) (hc : Chg lo' hi' w w') (hne : hi ≤ lo' ∨ hi' ≤ lo) : OEds w' lo hi v es :=
  h.keep (fun g a b => hc.block g (by obtain ⟨_, _, _, _, _, h4, _⟩ := h; omega) (by omega)) hc.size
theorem ps_at {ps : List (GEdit × Value)} {i : Nat} {e : GEdit} (h : (ps.map Prod.fst)[i]? = some e) : ∃ u, ps[i]? = some (e, u) := by
  rw [List.getElem?_map] at h
  obtain ⟨p, h1, h2⟩ := Option.map_eq_some_iff.1 h
  exact ⟨p.2, by rw [h1, ← h2]⟩
theorem OEds.sl (h : OEds w lo hi v es) : Sl EditE w w.heap.size v es := by
  obtain ⟨ps, r, rfl, h2, h3, h4, h5⟩ := h
  obtain ⟨A, cap, rfl, c1, c2⟩ := own_nil h2
  refine ⟨A, cap, rfl, c1, c2, Row.of_own (E := EditE) h2 rfl (fun g hg => (World.ownsRow.lt h2 g hg).2) fun k e hx => ?_⟩
  obtain ⟨u, hu⟩ := ps_at hx
  refine ⟨epCells (e, u), ⟨u, rfl, (h5.at_ k _ hu).sl⟩, fun j x hj => ?_⟩
  have hj6 : j < 6 := by have := (List.getElem?_eq_some_iff.1 hj).1; simpa [epCells] using this
  show (ps.flatMap epCells)[k * 6 + j]? = some x
  rw [ep_at ps k _ hu j hj6]; exact hj
end
/-! the marks of a row of edits -/
def mkE (k : Nat) (e : GEdit) : GEdit := ⟨k, (k + 1 : Nat), (k + 2 : Nat), (k + 3 : Nat), marks (k + 4) e.part.length, mtext (k + 4 + 3 * e.part.length)⟩
def mkK (k : Nat) (e : GEdit) : Nat := k + 4 + 3 * e.part.length + 1
def markES : Nat → List GEdit → List GEdit
  | _, [] => []
  | k, e :: es => mkE k e :: markES (mkK k e) es
def markEnd : Nat → List GEdit → Nat
  | k, [] => k
  | k, e :: es => markEnd (mkK k e) es
theorem markES_len (k : Nat) (es : List GEdit) : (markES k es).length = es.length := by
  induction es generalizing k with
  | nil => rfl
  | cons e es ih => simp [markES, ih]
theorem markES_snoc (k : Nat) (es : List GEdit) (e : GEdit) : markES k (es ++ [e]) = markES k es ++ [mkE (markEnd k es) e] := by
  induction es generalizing k with
  | nil => rfl
  | cons x xs ih => simp [markES, markEnd, ih]
theorem markEnd_snoc (k : Nat) (es : List GEdit) (e : GEdit) : markEnd k (es ++ [e]) = mkK (markEnd k es) e := by
  induction es generalizing k with
  | nil => rfl
  | cons x xs ih => simp [markEnd, ih]
theorem markEnd_le (k : Nat) (es : List GEdit) : k ≤ markEnd k es := by
  induction es generalizing k with
  | nil => exact Nat.le_refl _
  | cons x xs ih => have := ih (mkK k x); unfold markEnd; unfold mkK at *; omega
theorem markEnd_take (k : Nat) (es : List GEdit) (n : Nat) (e : GEdit) (h : es[n]? = some e) : markEnd k (es.take (n + 1)) = mkK (markEnd k (es.take n)) e ∧ mkK (markEnd k (es.take n)) e ≤ markEnd k es := by
  have h1 : es.take (n + 1) = es.take n ++ [e] := by rw [List.take_add_one, h]; rfl
  have h2 : markEnd k (es.take (n + 1)) = mkK (markEnd k (es.take n)) e := by rw [h1, markEnd_snoc]
  refine ⟨h2, ?_⟩
  rw [← h2]
  have app : ∀ (a b : List GEdit) (k : Nat), markEnd k (a ++ b) = markEnd (markEnd k a) b := by
    intro a
    induction a with
    | nil => intro b k; rfl
    | cons x xs ih => intro b k; exact ih b (mkK k x)
  have h3 : markEnd k es = markEnd (markEnd k (es.take (n + 1))) (es.drop (n + 1)) := by rw [← app, List.take_append_drop]
  rw [h3]
  exact markEnd_le _ _
theorem markES_at (k : Nat) (es : List GEdit) (n : Nat) (e : GEdit) (h : es[n]? = some e) : (markES k es)[n]? = some (mkE (markEnd k (es.take n)) e) := by
  induction es generalizing k n with
  | nil => simp at h
  | cons x xs ih =>
    cases n with
    | zero => simp at h; subst h; rfl
    | succ n => exact ih (mkK k x) n (by simpa using h)
end Go.Proofs.Ytfapnipmgmpgaaa

namespace Go.Proofs.Ytfapnipmgmpgaaa
open Go.RowKit

end Go.Proofs.Ytfapnipmgmpgaaa

namespace Go.Proofs.Ytfapnipmgmpgaaa
open Go.RowKit

set_option maxRecDepth 100000 in
theorem markRuleS_nil (A : Option Addr) (c k : Nat) (w : World) :
    Calls Try.prog 64 #[.slice A 0 c, .int .i64 k] w fun r w' => r = .returned (.int .i64 k) ∧ w' = w := by
  go_enter Try.func64, Try.ntmps64
  go_wp2_with fail
  go_loopw [1, 5] (fun q i wr => q = .int .i64 k ∧ i = .int .i64 0 ∧ wr = w) (fun _ _ _ => 0)
  case atStart => exact ⟨rfl, rfl, rfl⟩
  case round =>
    obtain ⟨rfl, rfl, rfl⟩ := hrel
    go_wp2
    go_ret
    exact ⟨rfl, rfl⟩
theorem markPart (v : Value) (a b : Nat) (e : GEdit) (u : Value) (k : Nat) (q : Int) (w : World) (h : PartAt w v a b (e, u)) (hn : e.part.length ≤ 1099511627776) (hk : k ≤ 1099511627776) (hq : q = k) :
    Calls Try.prog 64 #[u, .int .i64 q] w fun r w' => r = .returned (.int .i64 ((k + 3 * e.part.length : Nat) : Int)) ∧ (∀ e' : GEdit, e'.part = marks k e.part.length → PartAt w' v a b (e', u)) ∧ Chg a b w w' := by
  subst hq
  obtain ⟨h1, h2⟩ := h
  rcases h1 with ⟨h3, A, c, h4, h5⟩ | h3
  · simp only at h3 h4
    subst h4
    refine (markRuleS_nil A c k w).mono ?_
    rintro r w' ⟨rfl, rfl⟩
    rw [h3]
    exact ⟨rfl, fun e' he => ⟨.inl ⟨he, A, c, rfl, h5⟩, h2⟩, Chg.refl _ _ _⟩
  · refine (markRuleS_any a u e.part k w h3.1 hn hk).mono ?_
    rintro r w' ⟨rfl, hm, hg⟩
    exact ⟨rfl, fun e' he => ⟨.inr (by rw [he]; exact h3.markedC hm (chg_of h3 hg)), h2⟩, chg_of h3 hg⟩
theorem heldPart (u : Value) (k m : Nat) (q : Int) (w : World) (h : Sl RuleE w w.heap.size u (marks k m)) (hn : m ≤ 1099511627776) (hk : k ≤ 1099511627776) (hq : q = k) :
    Calls Try.prog 66 #[u, .int .i64 q] w fun e w' => e = .returned (.int .i64 ((k + 3 * m : Nat) : Int)) ∧ Below w.heap.size w w' := by
  subst hq; exact heldRuleS_any u k m w h hn hk
theorem marks_set (k : Nat) (es : List GEdit) (n : Nat) (e : GEdit) (h : es[n]? = some e) : (markES k (es.take n) ++ es.drop n).set n (mkE (markEnd k (es.take n)) e) = markES k (es.take (n + 1)) ++ es.drop (n + 1) := by
  obtain ⟨hn, rfl⟩ := List.getElem?_eq_some_iff.1 h
  have hl : (markES k (es.take n)).length = n := by rw [markES_len, List.length_take]; omega
  rw [List.set_append, if_neg (by omega), hl, Nat.sub_self, List.drop_eq_getElem_cons hn, List.set_cons_zero, List.take_add_one, h, Option.toList_some, markES_snoc, List.append_assoc]; rfl
set_option maxRecDepth 100000 in
set_option maxHeartbeats 2000000 in
theorem markEditS_any (lo hi : Nat) (v : Value) (es : List GEdit) (k : Nat) (w : World) (h : OEds w lo hi v es) (hk : markEnd k es ≤ 1099511627776) (hn : es.length ≤ 1099511627776) :
    Calls Try.prog 17 #[v, .int .i64 k] w fun r w' => r = .returned (.int .i64 (markEnd k es : Nat)) ∧ OEds w' lo hi v (markES k es) ∧ Chg lo hi w w' := by
  have Hown := Lib.hid h
  obtain ⟨_, _, _, h2, _⟩ := h
  obtain ⟨A, cap, rfl, _⟩ := own_nil h2
  clear h2
  go_enter Try.func17, Try.ntmps17
  go_wp2_with fail
  go_loopw [1, 5] (fun q i wr => ∃ n : Nat, n ≤ es.length ∧ q = .int .i64 (markEnd k (es.take n) : Nat) ∧ i = .int .i64 n ∧ Hid (OEds wr lo hi (.slice A es.length cap) (markES k (es.take n) ++ es.drop n)) ∧ Chg lo hi w wr) (fun _ i _ => es.length - (intOf i).toNat)
  case atStart => exact ⟨0, Nat.zero_le _, rfl, rfl, by simpa [markES, Hid] using Hown.out, Chg.refl _ _ _⟩
  case round =>
    obtain ⟨n, hnl, rfl, rfl, HO, hcg⟩ := hrel
    by_cases hlt : n < es.length
    · obtain ⟨ps, r, hps, hrow, hhi, hsz, hP⟩ := HO.out
      obtain ⟨e, he⟩ : ∃ e, es[n]? = some e := ⟨_, List.getElem?_eq_getElem hlt⟩
      have hll : (markES k (es.take n) ++ es.drop n).length = es.length := by rw [List.length_append, markES_len, List.length_take, List.length_drop]; omega
      have hcur : (markES k (es.take n) ++ es.drop n)[n]? = some e := by
        have hl : (markES k (es.take n)).length = n := by rw [markES_len, List.length_take]; omega
        rw [List.getElem?_append_right (by omega), hl, Nat.sub_self, List.getElem?_drop, Nat.add_zero, he]
      obtain ⟨u, hu⟩ := ps_at (by rw [hps]; exact hcur)
      rw [hll] at hrow
      obtain ⟨g, cap', hv, hgb, hgl, _, _⟩ := own_form hrow (by omega)
      injection hv with hv1 hv2 hv3
      subst hv1 hv3
      obtain ⟨htk, hle⟩ := markEnd_take k es n e he
      have hset := marks_set k es n e he
      obtain ⟨m, hm⟩ : ∃ m, markEnd k (es.take n) = m := ⟨_, rfl⟩
      rw [hm] at htk hle hset ⊢
      have hpl : n < ps.length := (List.getElem?_eq_some_iff.1 hu).1
      have hmk : m + 4 + 3 * e.part.length + 1 ≤ 1099511627776 := by unfold mkK at hle; omega
      have hPn := hP.at_ n _ hu
      have hhb := hP.high (2 * n + 1)
      obtain ⟨a, ha⟩ : ∃ a, r (2 * n) = a := ⟨_, rfl⟩
      obtain ⟨b, hb⟩ : ∃ b, r (2 * n + 1) = b := ⟨_, rfl⟩
      rw [ha, hb] at hPn
      rw [hb] at hhb
      have hrg := hPn.2 g rfl
      have hx : ∀ j, j < 6 → ∃ x, wr.cell? ⟨g, n * 6 + j, none⟩ = some x := fun j hj =>
        ⟨_, (hrow.cellAt (n * 6 + j) (by omega)).trans (List.getElem?_eq_getElem (by rw [hrow.1]; omega))⟩
      obtain ⟨u0, hu0⟩ := hx 0 (by omega)
      obtain ⟨u1, hu1⟩ := hx 1 (by omega)
      obtain ⟨u2, hu2⟩ := hx 2 (by omega)
      obtain ⟨u3, hu3⟩ := hx 3 (by omega)
      have hu4 : wr.cell? ⟨g, n * 6 + 4, none⟩ = some u := by rw [hrow.cellAt (n * 6 + 4) (by omega), ep_at ps n _ hu 4 (by omega)]; rfl
      have hf := fun j => hrow.frozenAt (n * 6 + j)
      have hf0 := hf 0
      have hf1 := hf 1
      have hf2 := hf 2
      have hf3 := hf 3
      have hf4 := hf 4
      rw [Nat.add_zero] at hu0 hf0
      obtain ⟨h1, g1⟩ := World.ownsRow.stored hrow (n * 6) (.int .i64 m)
      obtain ⟨h2, g2⟩ := World.ownsRow.stored h1 (n * 6 + 1) (.int .i64 ((m : Int) + 1))
      obtain ⟨h3, g3⟩ := World.ownsRow.stored h2 (n * 6 + 2) (.int .i64 ((m : Int) + 1 + 1))
      obtain ⟨h4, g4⟩ := World.ownsRow.stored h3 (n * 6 + 3) (.int .i64 ((m : Int) + 1 + 1 + 1))
      have G4 := Lib.hid (grown_trans (grown_trans (grown_trans g1 g2) g3) g4)
      have R4 := Lib.hid h4
      have P4 := Lib.hid (hPn.row rfl (by omega) G4.out)
      have HP := Lib.hid hP
      have Hu := Lib.hid hu
      have He := Lib.hid he
      have Hps := Lib.hid hps
      have Hset := Lib.hid hset
      have Htk := Lib.hid htk
      have Hm := Lib.hid hm
      have Ha := Lib.hid ha
      have Hb := Lib.hid hb
      have Hhi := Lib.hid hhi
      have hi' : (n : Int) < (es.length : Int) := by omega
      clear h1 h2 h3 h4 g1 g2 g3 g4 hP hPn hu he hps hset htk hm ha hb hhi hcur hll hf hx hrow
      go_wp2_with fail
      refine (markPart _ a b e u (m + 4) _ _ P4.out (by omega) (by omega) (by omega)).mono ?_
      rintro r5 w2 ⟨rfl, hp2, hc2⟩
      have hl4 := (World.ownsRow.lt R4.out g rfl).2
      have R2 := own_keep R4.out (fun g' hg' => by
        have e9 : g = g' := by simpa [Value.ownBlock] using hg'
        subst e9
        exact hc2.block g hl4 hrg)
      have HC2 := Lib.hid hc2
      have HP2 := Lib.hid hp2
      have HR2 := Lib.hid R2
      clear hc2 hp2 R2 hu0 hu1 hu2 hu3 hu4 hf0 hf1 hf2 hf3 hf4
      go_wp2_with fail
      refine (markText_int (m + 4 + 3 * e.part.length) _ _ (by omega) (by omega)).mono ?_
      rintro r6 w3 ⟨rfl, hb3⟩
      have R3 := ownsRow_below HR2.out hb3
      obtain ⟨u5, hu5⟩ : ∃ x, w3.cell? ⟨g, n * 6 + 5, none⟩ = some x := ⟨_, (R3.cellAt (n * 6 + 5) (by omega)).trans (List.getElem?_eq_getElem (by rw [R3.1]; omega))⟩
      have hf5 := R3.frozenAt (n * 6 + 5)
      obtain ⟨h6, g6⟩ := World.ownsRow.stored R3 (n * 6 + 5) (.string (mtext (m + 4 + 3 * e.part.length)))
      have hs := set5 ps n (mkE m e, u) (e, u) Hu.out rfl
      simp only [mkE] at hs
      rw [show ((m + 1 : Nat) : Int) = (m : Int) + 1 by omega, show ((m + 2 : Nat) : Int) = (m : Int) + 1 + 1 by omega, show ((m + 3 : Nat) : Int) = (m : Int) + 1 + 1 + 1 by omega] at hs
      rw [hs] at h6
      have H6 := Lib.hid h6
      have G6 := Lib.hid g6
      have HB3 := Lib.hid hb3
      clear h6 g6 hs R3 hb3
      go_wp2_with fail
      go_roundw
      case rel =>
        have hE : (⟨(m : Int), (m : Int) + 1, (m : Int) + 1 + 1, (m : Int) + 1 + 1 + 1, marks (m + 4) e.part.length, mtext (m + 4 + 3 * e.part.length)⟩ : GEdit) = mkE m e := by
          unfold mkE
          rw [show ((m + 1 : Nat) : Int) = (m : Int) + 1 by omega, show ((m + 2 : Nat) : Int) = (m : Int) + 1 + 1 by omega, show ((m + 3 : Nat) : Int) = (m : Int) + 1 + 1 + 1 by omega]
        have s4 := G4.out.size
        have s2 := HC2.out.size
        have s3 := HB3.out.size
        have s6 := G6.out.size
        have hblk : ∀ x, x < wr.heap.size → x ≠ g → x < a ∨ b ≤ x → (w3.setCell ⟨g, n * 6 + 5, none⟩ (.string (mtext (m + 4 + 3 * e.part.length)))).heap[x]? = wr.heap[x]? := fun x hx hne hr =>
          (G6.out.block x (by omega) (fun e => hne (by simpa using e))).trans ((HB3.out.block x (by omega)).trans ((HC2.out.block x (by omega) hr).trans (G4.out.block x hx (fun e => hne (by simpa using e)))))
        have hPq : PartAt (w3.setCell ⟨g, n * 6 + 5, none⟩ (.string (mtext (m + 4 + 3 * e.part.length)))) (.slice (some ⟨g, 0, none⟩) es.length cap) a b (mkE m e, u) :=
          ((HP2.out (mkE m e) rfl).keep (fun x h1 h2 => HB3.out.block x (by omega)) s3).keep (fun x h1 h2 => G6.out.block x (by omega) (fun e => by simp at e; omega)) s6
        refine ⟨n + 1, by omega, ?_, by go_num, Lib.hid ⟨ps.set n (mkE m e, u), r, ?_, ?_, Hhi.out, by omega, ?_⟩, ?_⟩
        · rw [Htk.out]; unfold mkK; congr 1
        · rw [List.map_set, Hps.out, Hset.out]
        · have hl2 : (markES k (es.take (n + 1)) ++ es.drop (n + 1)).length = es.length := by rw [List.length_append, markES_len, List.length_take, List.length_drop]; omega
          rw [hl2, ← hE]; exact H6.out
        · refine HP.out.mark n _ (by rw [Ha.out, Hb.out]; exact hPq) (fun x hx hne hr => hblk x hx (fun e => hne (by rw [e]; rfl)) (by rw [Ha.out, Hb.out] at hr; exact hr)) (by omega)
        · refine hcg.trans ⟨?_, ?_, ?_, by omega, fun x hx hr => hblk x hx (by have := Hhi.out g rfl; omega) (by have := HP.out.mono 0 (2 * n) (Nat.zero_le _); have := HP.out.low; have := Ha.out; omega)⟩
          · exact G6.out.os.trans (HB3.out.os.trans (HC2.out.os.trans G4.out.os))
          · exact G6.out.tape.trans (HB3.out.tape.trans (HC2.out.tape.trans G4.out.tape))
          · exact G6.out.output.trans (HB3.out.output.trans (HC2.out.output.trans G4.out.output))
      case measure => simp [intOf]; omega
    · have hkn : n = es.length := by omega
      subst hkn
      go_wp2
      go_ret
      exact ⟨by simp, by have := HO.out; rwa [List.take_length, List.drop_length, List.append_nil] at this, hcg⟩
end Go.Proofs.Ytfapnipmgmpgaaa

namespace Go.Proofs.Ytfapnipmgmpgaaa
open Go.RowKit

set_option maxRecDepth 100000 in
set_option maxHeartbeats 2000000 in
theorem heldEditS_any (v : Value) (es : List GEdit) (k : Nat) (w : World) (h : Sl EditE w w.heap.size v (markES k es)) (hk : markEnd k es ≤ 1099511627776) (hn : es.length ≤ 1099511627776) :
    Calls Try.prog 18 #[v, .int .i64 k] w fun r w' => r = .returned (.int .i64 (markEnd k es : Nat)) ∧ Below w.heap.size w w' := by
  obtain ⟨A, c, rfl, hc, hm, hrow⟩ := h
  rw [markES_len] at hc
  rw [markES_len]
  clear hm
  go_enter Try.func18, Try.ntmps18
  go_wp2_with fail
  go_loopw [1, 5] (fun q i wr => ∃ n : Nat, n ≤ es.length ∧ q = .int .i64 (markEnd k (es.take n) : Nat) ∧ i = .int .i64 n ∧ Below w.heap.size w wr) (fun _ i _ => es.length - (intOf i).toNat)
  case atStart => exact ⟨0, Nat.zero_le _, rfl, rfl, Below.refl _ _⟩
  case round =>
    obtain ⟨n, hnl, rfl, rfl, hb⟩ := hrel
    by_cases hlt : n < es.length
    · obtain ⟨b, o, rfl, hbl, hcell⟩ := hrow.edit (fun _ h => h) (k := n) (by rw [markES_len]; exact hlt)
      obtain ⟨e, he⟩ : ∃ e, es[n]? = some e := ⟨_, List.getElem?_eq_getElem hlt⟩
      obtain ⟨vR, hec, hR⟩ := hcell n _ (markES_at k es n e he)
      obtain ⟨htk, hle⟩ := markEnd_take k es n e he
      obtain ⟨m, hm⟩ : ∃ m, markEnd k (es.take n) = m := ⟨_, rfl⟩
      rw [hm] at htk hle hec hR ⊢
      have hmk : m + 4 + 3 * e.part.length + 1 ≤ 1099511627776 := by unfold mkK at hle; omega
      obtain ⟨c0, c1, c2, c3, c4, c5, cl⟩ := hec.up hb
      simp only [mkE] at c0 c1 c2 c3 c5
      rw [show ((m + 1 : Nat) : Int) = (m : Int) + 1 by omega] at c1
      rw [show ((m + 2 : Nat) : Int) = (m : Int) + 1 + 1 by omega] at c2
      rw [show ((m + 3 : Nat) : Int) = (m : Int) + 1 + 1 + 1 by omega] at c3
      have HR := Lib.hid (hR.up hb)
      have Htk := Lib.hid htk
      have HB := Lib.hid hb
      have hsz := hb.size
      have hi' : (n : Int) < (es.length : Int) := by omega
      clear hcell he hec hR htk hm hb hle
      go_wp2_with fail
      refine (heldPart vR (m + 4) e.part.length _ _ HR.out (by omega) (by omega) (by omega)).mono ?_
      rintro r5 w2 ⟨rfl, hb2⟩
      have d5 := (hb2.cell (p := ⟨b, o + n * 6 + 5, none⟩) cl).trans c5
      have dl : b < w2.heap.size := Nat.lt_of_lt_of_le cl hb2.size
      have HB2 := Lib.hid (HB.out.trans (hb2.mono hsz))
      have hsz2 := HB2.out.size
      have e0 : (decide (((m + 4 + 3 * e.part.length : Nat) : Int) < 0)) = false := by simp; omega
      clear c0 c1 c2 c3 c4 c5 hb2
      go_wp2_with fail
      go_region_held3 (fun w' => Below w2.heap.size w2 w' ∧ w'.cell? ⟨b, o + n * 6 + 5, none⟩ = some (.string (mtext (m + 4 + 3 * e.part.length)))) (first | exact ⟨(Below.refl _ _).drew, d5⟩ | (exact keepB (by assumption) hb3 dl))
        (first | (go_at_call 65; refine (markText_int (m + 4 + 3 * e.part.length) _ _ (by omega) (by omega)).mono ?_; rintro r6 w3 ⟨rfl, hb3⟩))
      have HB3 := Lib.hid (HB2.out.trans (((Below.refl _ _).drew.trans hb3).mono hsz2))
      clear hb3 d5
      go_wp2
      go_roundw
      case rel => exact ⟨n + 1, by omega, by rw [Htk.out]; unfold mkK; congr 1, by go_num, HB3.out⟩
      case measure => simp [intOf]; omega
    · have hkn : n = es.length := by omega
      subst hkn
      go_wp2
      go_ret
      exact ⟨by simp, hb⟩
end Go.Proofs.Ytfapnipmgmpgaaa

namespace Go.Proofs.Ytfapnipmgmpgaaa
open Go.RowKit

/-- What an element of a new row of edits may hold. -/
def NilP (e : GEdit) (u : Value) : Prop := e.part = [] ∧ ∃ A c, u = .slice A 0 c ∧ c ≤ maxLen
theorem oeds_zero {W : World} {lo : Nat} (h : lo ≤ W.heap.size) : OEds W lo W.heap.size (.slice none 0 0) [] :=
  ⟨[], _, rfl, World.ownsRow_nil _ _ _ _, fun _ h => (by simp [Value.ownBlock] at h), Nat.le_refl _, PartsR.nil h⟩
theorem oeds_empty {W : World} {lo N : Nat} (hN : N = W.heap.size) (h : lo ≤ W.heap.size) : OEds (W.alloc (Obj.cells #[] 34)) lo (W.heap.size + 1) (.slice (some ⟨N, 0, none⟩) 0 0) [] := by
  subst hN
  exact ⟨[], _, rfl, World.ownsRow_lit W #[] 0 h (Nat.zero_le _) rfl, fun g hg => by simp [Value.ownBlock] at hg; omega, by simp, PartsR.nil (by omega)⟩
theorem oeds_one {W : World} {lo N : Nat} {e : GEdit} {u : Value} (hN : N = W.heap.size) (h : lo ≤ W.heap.size) (hu : NilP e u ∨ OwnR W lo W.heap.size u e.part) :
    OEds (W.alloc (Obj.cells #[.int .i64 e.kind, .int .i64 e.i, .int .i64 e.j, .int .i64 e.k, u, .string e.map] 34)) lo (W.heap.size + 1) (.slice (some ⟨N, 0, none⟩) 1 1) [e] := by
  subst hN
  have hrow := World.ownsRow_lit (e := 34) (size := 6) W #[.int .i64 e.kind, .int .i64 e.i, .int .i64 e.j, .int .i64 e.k, u, .string e.map] 1 h (by decide) rfl
  refine ⟨[(e, u)], fun j => if j = 0 then lo else W.heap.size, rfl, hrow, fun g hg => by simp [Value.ownBlock] at hg; omega, by simp, Nat.le_refl _, ?_, ?_, ?_⟩
  · intro i j hij
    show (if i = 0 then lo else W.heap.size) ≤ (if j = 0 then lo else W.heap.size)
    repeat' split
    all_goals omega
  · intro i
    show (if i = 0 then lo else W.heap.size) ≤ W.heap.size + 1
    split <;> omega
  · intro i p hp
    have hi : i = 0 := by
      have := (List.getElem?_eq_some_iff.1 hp).1
      simp at this; exact this
    subst hi
    simp at hp
    subst hp
    refine ⟨?_, fun g hg => by simp [Value.ownBlock] at hg; simp; omega⟩
    rcases hu with hu | hu
    · exact .inl hu
    · exact .inr (by simpa using hu.alloc _)
/-- A row of edits and what is known of its parts. -/
def OEdP (w : World) (lo hp : Nat) (v : Value) (es : List GEdit) : Prop :=
  ∃ ps r, ps.map Prod.fst = es ∧ w.ownsRow lo 34 6 v es.length (ps.flatMap epCells) ∧ PartsR w v lo hp r ps
theorem OEdP.oeds {w : World} {lo hp : Nat} {v : Value} {es : List GEdit} (h : OEdP w lo hp v es) (hh : hp ≤ w.heap.size) : OEds w lo w.heap.size v es := by
  obtain ⟨ps, r, h1, h2, h3⟩ := h
  exact ⟨ps, r, h1, h2, fun g hg => (World.ownsRow.lt h2 g hg).2, Nat.le_refl _, h3.le (Nat.le_refl _) hh⟩
theorem oedp_empty {W : World} {lo N : Nat} (hN : N = W.heap.size) (h : lo ≤ W.heap.size) : OEdP (W.alloc (Obj.cells #[] 34)) lo lo (.slice (some ⟨N, 0, none⟩) 0 0) [] := by
  subst hN
  exact ⟨[], _, rfl, World.ownsRow_lit W #[] 0 h (Nat.zero_le _) rfl, PartsR.nil (Nat.le_refl _)⟩
theorem OEdP.keep {w w' : World} {lo hp : Nat} {v : Value} {es : List GEdit} (h : OEdP w lo hp v es) (hb : Below w.heap.size w w') (hh : hp ≤ w.heap.size) : OEdP w' lo hp v es := by
  obtain ⟨ps, r, h1, h2, h3⟩ := h
  exact ⟨ps, r, h1, ownsRow_below h2 hb, h3.keep (fun g _ b _ => hb.block g (by omega)) hb.size⟩
theorem PartsR.reval {w : World} {v v' : Value} {lo hi N : Nat} {r : Nat → Nat} {ps : List (GEdit × Value)} (h : PartsR w v lo hi r ps) (hv : v'.ownBlock = v.ownBlock ∨ v'.ownBlock = some N) (hN : hi ≤ N) : PartsR w v' lo hi r ps :=
  ⟨h.low, h.mono, h.high, fun i p hp => by
    obtain ⟨h1, h2⟩ := h.at_ i p hp
    refine ⟨h1, fun g hg => ?_⟩
    rcases hv with hv | hv
    · exact h2 g (hv.symm.trans hg)
    · have : g = N := by rw [hv] at hg; exact (Option.some.inj hg).symm
      have := h.high (2 * i + 1)
      omega⟩
/-- 'append(s, x)' of one edit. -/
theorem push_edit {W : World} {ops : Array Oper} {rest : List Oper} {o : Oper} {a : Act} {Q : Exit → Act → World → Prop} (hgd : o.guard = none) (s x : Operand)
    (ho : o.op = .call { callee := .builtin .append, args := #[s, x], argTypes := #[38, 38] }) {e : GEdit} {u : Value} {lo hp pa pb : Nat} {v : Value} {es : List GEdit}
    (hs : a.eval s = v) {N : Nat} (hx : a.eval x = .slice (some ⟨N, 0, none⟩) 1 1) (hN : N = W.heap.size) (hown : OEdP W lo hp v es) (hlen : es.length ≤ 1048576) (hbase : lo ≤ W.heap.size)
    (hu1 : u.oneCell' = true) (hu : PartAt W v pa pb (e, u)) (h1 : hp ≤ pa) (h2 : pa ≤ pb) (h3 : pb ≤ W.heap.size) (h4 : lo ≤ pa)
    (h : ∀ g' c' w', OEdP w' lo pb (.slice (some ⟨g', 0, none⟩) (es.length + 1) c') (es ++ [e]) → (v.ownBlock = some g' ∨ g' = W.heap.size + 1) → W.grownBy w' v.ownBlock → Below lo W w' → wpList Try.prog ops Q rest (a.put o.dst (.slice (some ⟨g', 0, none⟩) (es.length + 1) c')) w') :
    wpList Try.prog ops Q (o :: rest) a (W.alloc (.cells #[.int .i64 e.kind, .int .i64 e.i, .int .i64 e.j, .int .i64 e.k, u, .string e.map] 34)) := by
  subst hN
  obtain ⟨ps, r, hm, hrow, hP⟩ := hown
  obtain ⟨i0, hi0, hz0, hz1, hz2⟩ := info_parts Try.infoEd
  refine wpList_push2 hgd s x 38 ho i0 _ 6 72 Try.underlying38 hi0 hz0 hz1 hz2 rfl (by decide) hs hx rfl (by simp [Value.oneCell'] at hu1 ⊢; exact hu1) hrow (by omega) (by omega) hbase ?_
  intro v' w' k1 k2 k3
  have hg : W.grownBy w' v.ownBlock := ⟨k2.os, k2.tape, k2.output, Nat.le_trans (by simp) k2.size, fun y hy hne => (k2.block y (by simp; omega) hne).trans (Below.heap_alloc W _ y hy)⟩
  have hb : Below lo W w' := (Below.refl lo W).grown hg hbase (fun y hy => (World.ownsRow.lt hrow y hy).1)
  have k1' : w'.ownsRow lo 34 6 v' (es.length + 1) ((ps ++ [(e, u)]).flatMap epCells) := by simpa [epCells] using k1
  obtain ⟨g', c', rfl, _⟩ := own_form k1' (by omega)
  refine h g' c' w' ?_ (k3.imp (fun q => q.symm.trans rfl) (fun q => by simpa [Value.ownBlock] using q)) hg hb
  obtain ⟨r', hr'⟩ := (hP.le (Nat.le_refl _) h1).snoc hu h2 h4
  refine ⟨ps ++ [(e, u)], r', by rw [List.map_append, hm]; rfl, by simpa using k1', ?_⟩
  refine PartsR.reval (v := v) (N := W.heap.size + 1) (hr'.keep (fun y _ hy hne => hg.block y (by omega) (fun e => hne e.symm)) hg.size) k3 (by omega)
/-- 'append(s, x)' of one edit in a region that draws its order. -/
theorem step_push_edit (W : World) {W' : World} {e : GEdit} {u : Value} (hW : W' = W.alloc (.cells #[.int .i64 e.kind, .int .i64 e.i, .int .i64 e.j, .int .i64 e.k, u, .string e.map] 34))
    {ops : Array Oper} {o : Oper} {a : Act} {K : Act → World → Prop} {Q : Exit → Act → World → Prop} {E : Prop} (hgd : o.guard = none) (s x : Operand)
    (ho : o.op = .call { callee := .builtin .append, args := #[s, x], argTypes := #[38, 38] }) {lo hp pa pb : Nat} {v : Value} {es : List GEdit}
    (hs : a.eval s = v) {N : Nat} (hx : a.eval x = .slice (some ⟨N, 0, none⟩) 1 1) (hN : N = W.heap.size) (hown : OEdP W lo hp v es) (hlen : es.length ≤ 1048576) (hbase : lo ≤ W.heap.size)
    (hu1 : u.oneCell' = true) (hu : PartAt W v pa pb (e, u)) (h1 : hp ≤ pa) (h2 : pa ≤ pb) (h3 : pb ≤ W.heap.size) (h4 : lo ≤ pa)
    (h : ∀ g' c' w', OEdP w' lo pb (.slice (some ⟨g', 0, none⟩) (es.length + 1) c') (es ++ [e]) → (v.ownBlock = some g' ∨ g' = W.heap.size + 1) → W.grownBy w' v.ownBlock → Below lo W w' → K (a.put o.dst (.slice (some ⟨g', 0, none⟩) (es.length + 1) c')) w') :
    if Region.wanted o (yielded ops a.tmps) = true then Oper.wp Try.prog o a W' K Q else E := by
  subst hW
  subst hN
  have hw : Region.wanted o (yielded ops a.tmps) = true := by simp [Region.wanted, hgd]
  rw [if_pos hw]
  obtain ⟨ps, r, hm, hrow, hP⟩ := hown
  obtain ⟨i0, hi0, hz0, hz1, hz2⟩ := info_parts Try.infoEd
  obtain ⟨v', w', hrun, k1, k2, _, k3⟩ := run_append_own_at (P := Try.prog) (W.alloc (.cells #[.int .i64 e.kind, .int .i64 e.i, .int .i64 e.j, .int .i64 e.k, u, .string e.map] 34)) lo 38 o.type 34 i0 _ 6 72 Try.underlying38 hi0 hz0 hz1 hz2 rfl (by decide) v es.length _ (World.ownsRow.alloc hrow _) ⟨W.heap.size, 0, none⟩ 1 1 (epCells (e, u)) rfl
    (fun j y hy => by
      have : (W.alloc (.cells #[.int .i64 e.kind, .int .i64 e.i, .int .i64 e.j, .int .i64 e.k, u, .string e.map] 34)).cell? ⟨W.heap.size, j, none⟩ = (#[Value.int .i64 e.kind, .int .i64 e.i, .int .i64 e.j, .int .i64 e.k, u, .string e.map] : Array Value)[j]? := cell_of_row _ _ _ _ 34 (0, 0) (heap_alloc_new W _)
      have ha : (⟨W.heap.size, 0, none⟩ : Addr).add j = ⟨W.heap.size, j, none⟩ := by unfold Addr.add; split <;> simp_all
      rw [ha, this]; simpa [epCells] using hy) (by simp [epCells, Value.oneCell'] at hu1 ⊢; exact hu1) (by simp only [maxLen]; omega) (by omega) (by simp; omega)
  unfold Oper.wp execOp
  simp only [ho, resolve, invoke, builtin, Sem.run_bind, Sem.run_pure, Result.andThen_ok, List.map_toArray, List.map_cons, List.map_nil, hs, hx, hrun]
  have hg : W.grownBy w' v.ownBlock := ⟨k2.os, k2.tape, k2.output, Nat.le_trans (by simp) k2.size, fun y hy hne => (k2.block y (by simp; omega) hne).trans (Below.heap_alloc W _ y hy)⟩
  have hb : Below lo W w' := (Below.refl lo W).grown hg hbase (fun y hy => (World.ownsRow.lt hrow y hy).1)
  have k1' : w'.ownsRow lo 34 6 v' (es.length + 1) ((ps ++ [(e, u)]).flatMap epCells) := by simpa [epCells] using k1
  obtain ⟨g', c', rfl, _⟩ := own_form k1' (by omega)
  refine h g' c' w' ?_ (k3.imp (fun q => q.symm.trans rfl) (fun q => by simpa [Value.ownBlock] using q)) hg hb
  obtain ⟨r', hr'⟩ := (hP.le (Nat.le_refl _) h1).snoc hu h2 h4
  refine ⟨ps ++ [(e, u)], r', by rw [List.map_append, hm]; rfl, by simpa using k1', ?_⟩
  refine PartsR.reval (v := v) (N := W.heap.size + 1) (hr'.keep (fun y _ hy hne => hg.block y (by omega) (fun e => hne e.symm)) hg.size) (by simpa using k3) (by omega)
end Go.Proofs.Ytfapnipmgmpgaaa

namespace Go.Proofs.Ytfapnipmgmpgaaa

end Go.Proofs.Ytfapnipmgmpgaaa

namespace Go.Proofs.Ytfapnipmgmpgaaa
open Go.RowKit

def delE (i j : Int) : GEdit := ⟨2, i, j, 0, [], ⟨#[]⟩⟩
def insE (i : Int) (p : List GRule) : GEdit := ⟨1, i, 0, 0, p, ⟨#[]⟩⟩
def ERes (es : List GEdit) (c : Int) (w : World) (r : Ending) (w' : World) : Prop :=
  Below w.heap.size w w' ∧ ∃ v, r = .returned (.tuple #[v, .int .i64 c]) ∧ OEds w' w.heap.size w'.heap.size v es
theorem ERes.mk1 {w W : World} {es : List GEdit} {c : Int} {lo hi : Nat} {v : Value} (hb : Below w.heap.size w W) (h : OEds W lo hi v es) (hl : w.heap.size ≤ lo) : ERes es c w (.returned (.tuple #[v, .int .i64 c])) W := by
  refine ⟨hb, v, rfl, ?_⟩
  obtain ⟨ps, r, h1, h2, h3, h4, h5⟩ := h
  exact ⟨ps, r, h1, ownsRow_more h2 hl, fun g hg => by have := h3 g hg; omega, Nat.le_refl _, h5.le hl h4⟩
end Go.Proofs.Ytfapnipmgmpgaaa

namespace Go.Proofs.Ytfapnipmgmpgaaa
open Go.RowKit

end Go.Proofs.Ytfapnipmgmpgaaa

namespace Go.Proofs.Ytfapnipmgmpgaaa
open Go.RowKit

end Go.Proofs.Ytfapnipmgmpgaaa

namespace Go.Proofs.Ytfapnipmgmpgaaa
open Go.RowKit

theorem markEnd_small (es : List GEdit) (k : Nat) (h : ∀ x ∈ es, x.part.length ≤ 400) : markEnd k es ≤ k + es.length * 1205 := by
  induction es generalizing k with
  | nil => simp [markEnd]
  | cons x xs ih =>
    have h1 := ih (mkK k x) (fun y hy => h y (by simp [hy]))
    have h2 := h x (by simp)
    unfold markEnd
    unfold mkK at h1 ⊢
    rw [List.length_cons]
    omega
end Go.Proofs.Ytfapnipmgmpgaaa

namespace Go.Proofs.Ytfapnipmgmpgaaa
open Go.RowKit

set_option maxRecDepth 100000 in
set_option maxHeartbeats 4000000 in
theorem l07PlaceS_any (b : Nat) (vR : Value) (e : GEdit) (p : Int) (w : World) (h : EditAt w w.heap.size b e vR) (he : editOk e = true) (hsm : SmallL e.part) (hn : e.part.length ≤ 1099511627776) (hp : 0 ≤ p ∧ p ≤ 1000000000000000) (hk : e.kind = 1 ∨ e.kind = 2) :
    Calls Try.prog 89 #[.pointer (some ⟨b, 0, none⟩), .int .i64 p] w fun r w' => r = .returned (.int .i64 (placeP e p)) ∧ Below w.heap.size w w' := by
  obtain ⟨g1, g2, g3, g4, g5, g6, g7⟩ := editOk_get he
  clear he
  have HH := Lib.hid h
  have hless : ∀ q, 0 ≤ q ∧ q ≤ 1000000000000000 → ∀ W, EditAt W W.heap.size b e vR → Calls Try.prog 120 #[.pointer (some ⟨b, 0, none⟩), .int .i64 q] W fun r w' => r = .returned (.int .i64 (lessP e q)) ∧ Below W.heap.size W w' :=
    fun q hq W hW => l07Less_any b vR e q W hW hq g2 g3
  have HLs := Lib.hid hless
  clear hless
  have hbd : ∀ q, 0 ≤ q ∧ q ≤ 1000000000000000 → -1000000000000000 ≤ lessP e q ∧ lessP e q ≤ 2000000000000000 := by
    intro q hq; unfold lessP; split
    · omega
    · split <;> omega
  obtain ⟨k, i, j, kk, part, map⟩ := e
  obtain ⟨⟨x0, x1, x2, x3, x4, x5⟩, hlt, hR⟩ := h
  have HR := Lib.hid hR
  simp only at g1 g2 g3 g4 g5 g6 g7 hn hsm x0 x1 x2 x3 x4 x5
  have hlb := gramLen_bounds part
  obtain ⟨_, ls, hll⟩ := gram_lens g7
  have Hl := Lib.hid hll
  have hgl := gramLen_of hll
  have wji : IntKind.i64.wrap (j - i) = j - i := IntWalk.i64_in _ (by omega)
  have Hbd := Lib.hid hbd
  clear hll g7 hR hbd
  have go1 : ∀ (ins : Bool), (decide (i < p) && decide (p < j)) = ins → True := fun _ _ => trivial
  clear go1
  simp only at hk
  rcases hk with rfl | rfl
  · -- insert
    have hj0 : j = 0 := g6 rfl
    subst hj0
    have wng : IntKind.i64.wrap (-i) = -i := IntWalk.i64_in _ (by omega)
    have wn : IntKind.i64.wrap (p + lastI ls) = p + lastI ls := IntWalk.i64_in _ (by omega)
    have HG := Lib.hid hgl
    clear hgl
    by_cases c : i < p
    · have c1 : decide (i < p) = true := by simp [c]
      have c2 : decide (p < 0) = false := by simp; omega
      go_enter Try.func89, Try.ntmps89
      go_wp2_with fail
      go_quiet (fail)
      go_wp2_with fail
      refine (l02Length_any b 4 _ part ls _ Hl.out (by simpa using x4) (by simpa using hlt) (HR.out.up (below_drewN (Below.refl _ _) _)) hsm hn).mono ?_
      rintro r w1 ⟨rfl, hb1⟩
      go_wp2_with fail
      go_ret
      exact ⟨ret_int (by simp [placeP, HG.out, c]), (below_drewN (Below.refl _ _) _).trans hb1⟩
    · have c1 : decide (i < p) = false := by simp; omega
      go_enter Try.func89, Try.ntmps89
      go_wp2_with fail
      go_quiet (fail)
      go_wp2_with fail
      go_ret
      exact ⟨ret_int (by simp [placeP, of_decide_eq_false c1]), (by repeat (first | exact Below.refl _ _ | (refine Below.alloc ?_ (by first | omega | (simp; done) | (simp; omega)) _) | refine below_drewN ?_ _ | refine Below.drew ?_))⟩
  · -- kind 2
    by_cases cA : i < p
    · have a1 : decide (i < p) = true := by simp [cA]
      have HA := Lib.hid cA
      by_cases cB : p < j
      · have b1 : decide (p < j) = true := by simp [cB]
        have HB := Lib.hid cB
        clear cA cB
        go_enter Try.func89, Try.ntmps89
        go_wp2_with fail
        go_quiet (fail)
        go_wp2_with fail
        refine (HLs.out p (by omega) _ (HH.out.up (below_drewN (Below.refl _ _) _))).mono ?_
        rintro r w1 ⟨rfl, hb1⟩
        go_wp2_with fail
        go_ret
        exact ⟨ret_int (by simp [placeP]), (below_drewN (Below.refl _ _) _).trans hb1⟩
      · have b1 : decide (p < j) = false := by simp; omega
        have HB := Lib.hid cB
        clear cA cB
        go_enter Try.func89, Try.ntmps89
        go_wp2_with fail
        go_quiet (fail)
        go_wp2_with fail
        refine (HLs.out p (by omega) _ (HH.out.up (below_drewN (Below.refl _ _) _))).mono ?_
        rintro r w1 ⟨rfl, hb1⟩
        go_wp2_with fail
        go_ret
        exact ⟨ret_int (by simp [placeP]), (below_drewN (Below.refl _ _) _).trans hb1⟩
    · have a1 : decide (i < p) = false := by simp; omega
      have HA := Lib.hid cA
      clear cA
      go_enter Try.func89, Try.ntmps89
      go_wp2_with fail
      go_quiet (fail)
      go_wp2_with fail
      refine (HLs.out p (by omega) _ (HH.out.up (below_drewN (Below.refl _ _) _))).mono ?_
      rintro r w1 ⟨rfl, hb1⟩
      go_wp2_with fail
      go_ret
      exact ⟨ret_int (by simp [placeP]), (below_drewN (Below.refl _ _) _).trans hb1⟩

def simE (e : GEdit) : Bool := decide (e.kind = 1) || decide (e.kind = 2)
def remE (i j : Int) : List GEdit := if i < j then [delE i j] else []
def passI (e f : GEdit) (first : Bool) : Int := if f.kind = 1 then (if f.i < e.i ∨ (f.i = e.i ∧ first = false) then e.i + gramLen f.part else e.i) else lessP f e.i
/-- An edit as it stands behind another one. -/
def passE (e f : GEdit) (first : Bool) : List GEdit :=
  if e.kind = 1 then [insE (passI e f first) e.part]
  else if e.i = e.j then []
  else if f.kind = 1 then
    (if f.i ≤ e.i then [delE (e.i + gramLen f.part) (e.j + gramLen f.part)] else if e.j ≤ f.i then [delE e.i e.j] else [delE (f.i + gramLen f.part) (e.j + gramLen f.part), delE e.i f.i])
  else remE (lessP f e.i) (lessP f e.j)
set_option maxRecDepth 100000 in
theorem l07Simple_any (b : Nat) (vR : Value) (e : GEdit) (w : World) (h : EC w b 0 e vR) :
    Calls Try.prog 59 #[.pointer (some ⟨b, 0, none⟩)] w fun r w' => r = .returned (.bool (simE e)) ∧ Below w.heap.size w w' := by
  have x0 := h.c0
  have lb := h.lt
  by_cases h1 : e.kind = 1
  · rw [h1] at x0
    go_enter Try.func59, Try.ntmps59
    go_wp2_with fail
    all_goals
      go_ret
      exact ⟨ret_bool (by simp [simE, h1]), (by repeat (first | exact Below.refl _ _ | (refine Below.alloc ?_ (by first | omega | (simp; done) | (simp; omega)) _) | refine below_drewN ?_ _ | refine Below.drew ?_))⟩
  · by_cases h2 : e.kind = 2
    · rw [h2] at x0
      go_enter Try.func59, Try.ntmps59
      go_wp2_with fail
      all_goals
        go_ret
        exact ⟨ret_bool (by simp [simE, h2]), (by repeat (first | exact Below.refl _ _ | (refine Below.alloc ?_ (by first | omega | (simp; done) | (simp; omega)) _) | refine below_drewN ?_ _ | refine Below.drew ?_))⟩
    · have b1 : (e.kind == 1) = false := by simp [h1]
      have b2 : (e.kind == 2) = false := by simp [h2]
      go_enter Try.func59, Try.ntmps59
      go_wp2_with fail
      all_goals
        go_ret
        exact ⟨ret_bool (by simp [simE, h1, h2]), (by repeat (first | exact Below.refl _ _ | (refine Below.alloc ?_ (by first | omega | (simp; done) | (simp; omega)) _) | refine below_drewN ?_ _ | refine Below.drew ?_))⟩
set_option maxRecDepth 100000 in
theorem isSimple_any (e : GEdit) (vR : Value) (w : World) (hR : Sl RuleE w w.heap.size vR e.part) :
    Calls Try.prog 61 #[.agg #[.int .i64 e.kind, .int .i64 e.i, .int .i64 e.j, .int .i64 e.k, vR, .string e.map]] w fun r w' => r = .returned (.bool (simE e)) ∧ Below w.heap.size w w' := by
  obtain ⟨AR, cR, rfl, _⟩ := hR
  by_cases h1 : e.kind = 1
  · rw [h1]
    go_enter Try.func61, Try.ntmps61
    go_wp2_with fail
    all_goals
      go_ret
      exact ⟨ret_bool (by simp [simE, h1]), (by repeat (first | exact Below.refl _ _ | (refine Below.alloc ?_ (by first | omega | (simp; done) | (simp; omega)) _) | refine below_drewN ?_ _ | refine Below.drew ?_))⟩
  · by_cases h2 : e.kind = 2
    · rw [h2]
      go_enter Try.func61, Try.ntmps61
      go_wp2_with fail
      all_goals
        go_ret
        exact ⟨ret_bool (by simp [simE, h2]), (by repeat (first | exact Below.refl _ _ | (refine Below.alloc ?_ (by first | omega | (simp; done) | (simp; omega)) _) | refine below_drewN ?_ _ | refine Below.drew ?_))⟩
    · have b1 : (e.kind == 1) = false := by simp [h1]
      have b2 : (e.kind == 2) = false := by simp [h2]
      go_enter Try.func61, Try.ntmps61
      go_wp2_with fail
      all_goals
        go_ret
        exact ⟨ret_bool (by simp [simE, h1, h2]), (by repeat (first | exact Below.refl _ _ | (refine Below.alloc ?_ (by first | omega | (simp; done) | (simp; omega)) _) | refine below_drewN ?_ _ | refine Below.drew ?_))⟩
/-- A row of removals. -/
theorem oeds_del {W : World} {lo N : Nat} (i j : Int) (hN : N = W.heap.size) (h : lo ≤ W.heap.size) :
    OEds (W.alloc (Obj.cells #[.int .i64 2, .int .i64 i, .int .i64 j, .int .i64 0, .slice none 0 0, .string ⟨#[]⟩] 34)) lo (W.heap.size + 1) (.slice (some ⟨N, 0, none⟩) 1 1) [delE i j] :=
  oeds_one (e := delE i j) (u := .slice none 0 0) hN h (.inl ⟨rfl, none, 0, rfl, Nat.zero_le _⟩)
set_option maxRecDepth 100000 in
theorem removal_any (i j : Int) (w : World) :
    Calls Try.prog 122 #[.int .i64 i, .int .i64 j] w fun r w' => Below w.heap.size w w' ∧ ∃ v, r = .returned v ∧ OEds w' w.heap.size w'.heap.size v (remE i j) := by
  by_cases h : j ≤ i
  · go_enter Try.func122, Try.ntmps122
    go_wp2_with fail
    go_ret
    exact ⟨Below.refl _ _, _, rfl, by unfold remE; rw [if_neg (by omega)]; exact oeds_zero (Nat.le_refl _)⟩
  · have hd : decide (j ≤ i) = false := by simp; omega
    go_enter Try.func122, Try.ntmps122
    go_wp2_with fail
    go_ret
    refine ⟨(Below.refl _ _).alloc (Nat.le_refl _) _, _, rfl, ?_⟩
    unfold remE
    rw [if_pos (by omega)]
    have := oeds_del (W := w) (lo := w.heap.size) i j rfl (Nat.le_refl _)
    simpa using this
end Go.Proofs.Ytfapnipmgmpgaaa

namespace Go.Proofs.Ytfapnipmgmpgaaa
open Go.RowKit

/-- 'append(s, x, y)' of two removals in a region that draws its order. -/
theorem step_push_edit2 (W : World) {W' : World} {i1 j1 i2 j2 : Int} (hW : W' = W.alloc (.cells #[.int .i64 2, .int .i64 i1, .int .i64 j1, .int .i64 0, .slice none 0 0, .string ⟨#[]⟩, .int .i64 2, .int .i64 i2, .int .i64 j2, .int .i64 0, .slice none 0 0, .string ⟨#[]⟩] 34))
    {ops : Array Oper} {o : Oper} {a : Act} {K : Act → World → Prop} {Q : Exit → Act → World → Prop} {E : Prop} (hgd : o.guard = none) (s x : Operand)
    (ho : o.op = .call { callee := .builtin .append, args := #[s, x], argTypes := #[38, 38] }) {lo : Nat} {v : Value} {es : List GEdit}
    (hs : a.eval s = v) {N : Nat} (hx : a.eval x = .slice (some ⟨N, 0, none⟩) 2 2) (hN : N = W.heap.size) (hown : OEdP W lo lo v es) (hlen : es.length ≤ 1048576) (hbase : lo ≤ W.heap.size)
    (h : ∀ v' w', OEdP w' lo lo v' (es ++ [delE i1 j1, delE i2 j2]) → Below lo W w' → K (a.put o.dst v') w') :
    if Region.wanted o (yielded ops a.tmps) = true then Oper.wp Try.prog o a W' K Q else E := by
  subst hW
  subst hN
  have hw : Region.wanted o (yielded ops a.tmps) = true := by simp [Region.wanted, hgd]
  rw [if_pos hw]
  obtain ⟨ps, r, hm, hrow, hP⟩ := hown
  obtain ⟨i0, hi0, hz0, hz1, hz2⟩ := info_parts Try.infoEd
  obtain ⟨v', w', hrun, k1, k2, _, k3⟩ := run_append_own_at (P := Try.prog) (W.alloc (.cells #[.int .i64 2, .int .i64 i1, .int .i64 j1, .int .i64 0, .slice none 0 0, .string ⟨#[]⟩, .int .i64 2, .int .i64 i2, .int .i64 j2, .int .i64 0, .slice none 0 0, .string ⟨#[]⟩] 34)) lo 38 o.type 34 i0 _ 6 72 Try.underlying38 hi0 hz0 hz1 hz2 rfl (by decide) v es.length _ (World.ownsRow.alloc hrow _) ⟨W.heap.size, 0, none⟩ 2 2 (epCells (delE i1 j1, .slice none 0 0) ++ epCells (delE i2 j2, .slice none 0 0)) rfl
    (fun j y hy => by
      have : (W.alloc (.cells #[.int .i64 2, .int .i64 i1, .int .i64 j1, .int .i64 0, .slice none 0 0, .string ⟨#[]⟩, .int .i64 2, .int .i64 i2, .int .i64 j2, .int .i64 0, .slice none 0 0, .string ⟨#[]⟩] 34)).cell? ⟨W.heap.size, j, none⟩ = (#[Value.int .i64 2, .int .i64 i1, .int .i64 j1, .int .i64 0, .slice none 0 0, .string ⟨#[]⟩, .int .i64 2, .int .i64 i2, .int .i64 j2, .int .i64 0, .slice none 0 0, .string ⟨#[]⟩] : Array Value)[j]? := cell_of_row _ _ _ _ 34 (0, 0) (heap_alloc_new W _)
      have ha : (⟨W.heap.size, 0, none⟩ : Addr).add j = ⟨W.heap.size, j, none⟩ := by unfold Addr.add; split <;> simp_all
      rw [ha, this]; simpa [epCells, delE] using hy) (by simp [epCells, Value.oneCell']) (by simp only [maxLen]; omega) (by omega) (by simp; omega)
  unfold Oper.wp execOp
  simp only [ho, resolve, invoke, builtin, Sem.run_bind, Sem.run_pure, Result.andThen_ok, List.map_toArray, List.map_cons, List.map_nil, hs, hx, hrun]
  have hg : W.grownBy w' v.ownBlock := ⟨k2.os, k2.tape, k2.output, Nat.le_trans (by simp) k2.size, fun y hy hne => (k2.block y (by simp; omega) hne).trans (Below.heap_alloc W _ y hy)⟩
  have hb : Below lo W w' := (Below.refl lo W).grown hg hbase (fun y hy => (World.ownsRow.lt hrow y hy).1)
  refine h v' w' ?_ hb
  have hnil : ∀ (i j : Int), PartAt W v lo lo (delE i j, .slice none 0 0) := fun i j => ⟨.inl ⟨rfl, none, 0, rfl, Nat.zero_le _⟩, fun g _ => by omega⟩
  obtain ⟨r1, hr1⟩ := hP.snoc (hnil i1 j1) (Nat.le_refl _) (Nat.le_refl _)
  obtain ⟨r2, hr2⟩ := hr1.snoc (hnil i2 j2) (Nat.le_refl _) (Nat.le_refl _)
  refine ⟨(ps ++ [(delE i1 j1, .slice none 0 0)]) ++ [(delE i2 j2, .slice none 0 0)], r2, by rw [List.map_append, List.map_append, hm]; simp, by simpa [List.append_assoc] using k1, ?_⟩
  refine PartsR.reval (v := v) (N := W.heap.size + 1) (hr2.keep (fun y h1 h2 _ => by omega) hg.size) (by simpa using k3) (by omega)
theorem simE_kind {e : GEdit} (h : simE e = true) : e.kind = 1 ∨ e.kind = 2 := by simpa [simE] using h
/-- The result of passing. -/
def PRes (es : List GEdit) (w : World) (r : Ending) (w' : World) : Prop := Below w.heap.size w w' ∧ ∃ v, r = .returned v ∧ OEds w' w.heap.size w'.heap.size v es
theorem PRes.mk1 {w W : World} {es : List GEdit} {lo hi : Nat} {v : Value} (hb : Below w.heap.size w W) (h : OEds W lo hi v es) (hl : w.heap.size ≤ lo) : PRes es w (.returned v) W := by
  refine ⟨hb, v, rfl, ?_⟩
  obtain ⟨ps, r, h1, h2, h3, h4, h5⟩ := h
  exact ⟨ps, r, h1, ownsRow_more h2 hl, fun g hg => by have := h3 g hg; omega, Nat.le_refl _, h5.le hl h4⟩
theorem edit_nums {e : GEdit} (h : editOk e = true) : 0 ≤ e.i ∧ e.i ≤ 1000000000000000 ∧ 0 ≤ e.j ∧ e.j ≤ 1000000000000000 ∧ (e.kind = 2 → e.i ≤ e.j) := by
  have h1 := (kind_ok h).2.2.2
  obtain ⟨k, i, j, kk, part, map⟩ := e
  simp only [editOk, Bool.and_eq_true, inR, decide_eq_true_eq] at h
  obtain ⟨⟨⟨⟨⟨⟨⟨⟨_, _⟩, h2⟩, h3⟩, _⟩, _⟩, _⟩, _⟩, _⟩ := h
  have h4 := numOk_get h3
  simp only at h1 h2 h4 ⊢
  omega
-- GEN
set_option maxRecDepth 100000 in
set_option maxHeartbeats 4000000 in
theorem l07Pass_any (E F : Nat) (vE vF : Value) (e f : GEdit) (first : Bool) (w : World) (hE : EC w E 0 e vE) (hF : EC w F 0 f vF) (sE : Sl RuleE w w.heap.size vE e.part) (sF : Sl RuleE w w.heap.size vF f.part) (he : editOk e = true) (hf : editOk f = true) (se : simE e = true) (sf : simE f = true) :
    Calls Try.prog 60 #[.pointer (some ⟨E, 0, none⟩), .pointer (some ⟨F, 0, none⟩), .bool first] w (PRes (passE e f first) w) := by
  have HE := Lib.hid hE
  have HF := Lib.hid hF
  have SE := Lib.hid sE
  have SF := Lib.hid sF
  have HOF := Lib.hid hf
  have HNE := Lib.hid (edit_nums he)
  have HNF := Lib.hid (edit_nums hf)
  have HEL := Lib.hid hE.lt
  have HFL := Lib.hid hF.lt
  obtain ⟨_, lsF, hlF⟩ := gram_lens (kind_ok hf).2.1
  have hgF := gramLen_of hlF
  have hgb := gramLen_bounds f.part
  rw [hgF] at hgb
  have HLF := Lib.hid hlF
  have HGF := Lib.hid hgF
  have smF := Lib.hid (okAll_smallL (okAll_lens hlF))
  have hnF : f.part.length ≤ 1099511627776 := by have := gram_len400 (kind_ok hf).2.1; omega
  have hnE : e.part.length ≤ 1099511627776 := by have := gram_len400 (kind_ok he).2.1; omega
  have HGB := Lib.hid hgb
  have hkf := simE_kind sf
  have HKF := Lib.hid hkf
  obtain ⟨AE, cE, rfl, _⟩ := sE
  obtain ⟨AF, cF, rfl, _⟩ := sF
  have nE := HNE.out
  have nF := HNF.out
  clear hE hF he hf sf hlF hgF
  rcases simE_kind se with hk | hk
  · skip
    have x0 := HE.out.c0
    have x1 : w.cell? ⟨E, 1, none⟩ = some (.int .i64 e.i) := by simpa using HE.out.c1
    have x2 : w.cell? ⟨E, 2, none⟩ = some (.int .i64 e.j) := by simpa using HE.out.c2
    have xl := HE.out.lt
    have y0 := HF.out.c0
    have y1 : w.cell? ⟨F, 1, none⟩ = some (.int .i64 f.i) := by simpa using HF.out.c1
    have yl := HF.out.lt
    rw [hk] at x0
    have HKE := Lib.hid hk
    go_enter Try.func60, Try.ntmps60
    go_wp2_with fail
    refine (l07PlaceS_any F _ f e.i _ (EC.at_ HF.out SF.out) HOF.out smF.out hnF (by omega) hkf).mono ?_
    rintro r w1 ⟨rfl, hb1⟩
    clear x0 x1 x2 xl y0 y1 yl
    have HE1 := Lib.hid (HE.out.up hb1)
    have HF1 := Lib.hid (HF.out.up hb1)
    have HB1 := Lib.hid (hb1)
    have hz1 := hb1.size
    clear hb1 hkf
    rcases HKF.out with hkf | hkf
    · have HKF1 := Lib.hid hkf
      by_cases hii : f.i = e.i
      · have HII := Lib.hid hii
        have hbq : (f.i == e.i) = true := by simp [hii]
        cases first with
        | true =>
          have x0 := HE1.out.c0
          have x1 : w1.cell? ⟨E, 1, none⟩ = some (.int .i64 e.i) := by simpa using HE1.out.c1
          have x2 : w1.cell? ⟨E, 2, none⟩ = some (.int .i64 e.j) := by simpa using HE1.out.c2
          have xl := HE1.out.lt
          have y0 := HF1.out.c0
          have y1 : w1.cell? ⟨F, 1, none⟩ = some (.int .i64 f.i) := by simpa using HF1.out.c1
          have yl := HF1.out.lt
          rw [hkf] at y0
          clear hkf hii
          go_wp2_with fail
          go_quiet (fail)
          clear x0 x1 x2 xl y0 y1 yl
          have HE2 := Lib.hid (HE1.out.up (below_drewN (Below.refl w1.heap.size w1) nq))
          have HF2 := Lib.hid (HF1.out.up (below_drewN (Below.refl w1.heap.size w1) nq))
          have HB2 := Lib.hid (below_drewN HB1.out nq)
          clear HE1 HF1 HB1
          generalize w1.drewN nq = w2 at *
          have hpl : placeP f e.i = e.i := by unfold placeP; rw [if_pos HKF1.out, if_neg (by have := HII.out; omega)]
          rw [hpl]
          clear hpl
          have HP := Lib.hid (show passE e f true = [insE (e.i) e.part] by unfold passE; rw [if_pos HKE.out]; congr 1; unfold passI; rw [if_pos HKF1.out, if_neg (by have := HII.out; simp; omega)])
          have x4 : w2.cell? ⟨E, 4, none⟩ = some (.slice AE e.part.length cE) := by simpa using HE2.out.c4
          have xl4 := HE2.out.lt
          go_wp2_with fail
          refine (l02Own_any E 4 _ e.part _ x4 xl4 (SE.out.up HB2.out) hnE).mono ?_
          rintro r9 w9 ⟨v9, rfl, own9, hb9⟩
          obtain ⟨A9, c9, rfl, _⟩ := own_nil own9
          have HB9 := Lib.hid (Below.tr HB2.out hb9)
          have hs9 := HB9.out.size
          have OR := OwnR.of own9
          have OR2 : OwnR w9 w.heap.size w9.heap.size (.slice A9 e.part.length c9) e.part := ⟨ownsRow_more OR.1 (by have := HB2.out.size; omega), OR.2⟩
          clear x4
          go_wp2_with fail
          go_ret
          rw [HP.out]
          exact PRes.mk1 (lo := w.heap.size) (HB9.out.alloc hs9 _) (oeds_one (e := insE (e.i) e.part) (u := .slice A9 e.part.length c9) rfl hs9 (.inr OR2)) (Nat.le_refl _)
        | false =>
          have x0 := HE1.out.c0
          have x1 : w1.cell? ⟨E, 1, none⟩ = some (.int .i64 e.i) := by simpa using HE1.out.c1
          have x2 : w1.cell? ⟨E, 2, none⟩ = some (.int .i64 e.j) := by simpa using HE1.out.c2
          have xl := HE1.out.lt
          have y0 := HF1.out.c0
          have y1 : w1.cell? ⟨F, 1, none⟩ = some (.int .i64 f.i) := by simpa using HF1.out.c1
          have yl := HF1.out.lt
          rw [hkf] at y0
          clear hkf hii
          go_wp2_with fail
          go_quiet (fail)
          clear x0 x1 x2 xl y0 y1 yl
          have HE2 := Lib.hid (HE1.out.up (below_drewN (Below.refl w1.heap.size w1) nq))
          have HF2 := Lib.hid (HF1.out.up (below_drewN (Below.refl w1.heap.size w1) nq))
          have HB2 := Lib.hid (below_drewN HB1.out nq)
          clear HE1 HF1 HB1
          generalize w1.drewN nq = w2 at *
          have x0 := HE2.out.c0
          have x1 : w2.cell? ⟨E, 1, none⟩ = some (.int .i64 e.i) := by simpa using HE2.out.c1
          have x2 : w2.cell? ⟨E, 2, none⟩ = some (.int .i64 e.j) := by simpa using HE2.out.c2
          have xl := HE2.out.lt
          have y0 := HF2.out.c0
          have y1 : w2.cell? ⟨F, 1, none⟩ = some (.int .i64 f.i) := by simpa using HF2.out.c1
          have yl := HF2.out.lt
          have ws : IntKind.i64.wrap (e.i + lastI lsF) = e.i + lastI lsF := IntWalk.i64_in _ (by have := HGB.out; omega)
          have KI : C1 w2 ⟨E, 1, none⟩ (.int .i64 e.i) := ⟨x1, xl⟩
          have y4 : w2.drew.cell? ⟨F, 4, none⟩ = some (.slice AF f.part.length cF) := by simpa using (HF2.out.up (Below.drew (Below.refl _ _))).c4
          have Y4 := Lib.hid y4
          clear y4
          go_wp2_with fail
          have KD := And.intro (Below.drew (Below.refl w2.heap.size w2)) (KI.up (Below.drew (Below.refl _ _))).c
          go_region_held3 (fun w' => Below w2.heap.size w2 w' ∧ w'.cell? ⟨E, 1, none⟩ = some (.int .i64 e.i))
            (first | (with_reducible exact KD) | (with_reducible exact And.intro b3 (KI.up b3).c))
            (first | (go_at_call 47; (refine (l02Length_any F 4 _ f.part lsF _ HLF.out Y4.out yl (SF.out.up (Below.drew HB2.out)) smF.out hnF).mono ?_); rintro r3 w3 ⟨rfl, hb3⟩; have b3 := Below.undrew hb3))
          clear KD x0 x1 x2 xl y0 y1 yl KI
          have HE3 := Lib.hid (HE2.out.up b3)
          have HF3 := Lib.hid (HF2.out.up b3)
          have HB3 := Lib.hid (Below.tr HB2.out b3)
          have HP := Lib.hid (show passE e f false = [insE (e.i + lastI lsF) e.part] by unfold passE; rw [if_pos HKE.out]; congr 1; unfold passI; rw [if_pos HKF1.out, if_pos (.inr ⟨HII.out, rfl⟩), HGF.out])
          have x4 : w3.cell? ⟨E, 4, none⟩ = some (.slice AE e.part.length cE) := by simpa using HE3.out.c4
          have xl4 := HE3.out.lt
          go_wp2_with fail
          refine (l02Own_any E 4 _ e.part _ x4 xl4 (SE.out.up HB3.out) hnE).mono ?_
          rintro r9 w9 ⟨v9, rfl, own9, hb9⟩
          obtain ⟨A9, c9, rfl, _⟩ := own_nil own9
          have HB9 := Lib.hid (Below.tr HB3.out hb9)
          have hs9 := HB9.out.size
          have OR := OwnR.of own9
          have OR2 : OwnR w9 w.heap.size w9.heap.size (.slice A9 e.part.length c9) e.part := ⟨ownsRow_more OR.1 (by have := HB3.out.size; omega), OR.2⟩
          clear x4
          go_wp2_with fail
          go_ret
          rw [HP.out]
          exact PRes.mk1 (lo := w.heap.size) (HB9.out.alloc hs9 _) (oeds_one (e := insE (e.i + lastI lsF) e.part) (u := .slice A9 e.part.length c9) rfl hs9 (.inr OR2)) (Nat.le_refl _)
      · have HII := Lib.hid hii
        have hbq : (f.i == e.i) = false := by simp [hii]
        have x0 := HE1.out.c0
        have x1 : w1.cell? ⟨E, 1, none⟩ = some (.int .i64 e.i) := by simpa using HE1.out.c1
        have x2 : w1.cell? ⟨E, 2, none⟩ = some (.int .i64 e.j) := by simpa using HE1.out.c2
        have xl := HE1.out.lt
        have y0 := HF1.out.c0
        have y1 : w1.cell? ⟨F, 1, none⟩ = some (.int .i64 f.i) := by simpa using HF1.out.c1
        have yl := HF1.out.lt
        rw [hkf] at y0
        clear hkf hii
        go_wp2_with fail
        go_quiet (fail)
        clear x0 x1 x2 xl y0 y1 yl
        have HE2 := Lib.hid (HE1.out.up (below_drewN (Below.refl w1.heap.size w1) nq))
        have HF2 := Lib.hid (HF1.out.up (below_drewN (Below.refl w1.heap.size w1) nq))
        have HB2 := Lib.hid (below_drewN HB1.out nq)
        clear HE1 HF1 HB1
        generalize w1.drewN nq = w2 at *
        by_cases c0 : f.i < e.i
        · have hpl : placeP f e.i = e.i + lastI lsF := by unfold placeP; rw [if_pos HKF1.out, if_pos c0, HGF.out]
          have HC0 := Lib.hid c0
          rw [hpl]
          clear hpl c0
          have HP := Lib.hid (show passE e f first = [insE (e.i + lastI lsF) e.part] by unfold passE; rw [if_pos HKE.out]; congr 1; unfold passI; rw [if_pos HKF1.out, if_pos (.inl HC0.out), HGF.out])
          have x4 : w2.cell? ⟨E, 4, none⟩ = some (.slice AE e.part.length cE) := by simpa using HE2.out.c4
          have xl4 := HE2.out.lt
          go_wp2_with fail
          refine (l02Own_any E 4 _ e.part _ x4 xl4 (SE.out.up HB2.out) hnE).mono ?_
          rintro r9 w9 ⟨v9, rfl, own9, hb9⟩
          obtain ⟨A9, c9, rfl, _⟩ := own_nil own9
          have HB9 := Lib.hid (Below.tr HB2.out hb9)
          have hs9 := HB9.out.size
          have OR := OwnR.of own9
          have OR2 : OwnR w9 w.heap.size w9.heap.size (.slice A9 e.part.length c9) e.part := ⟨ownsRow_more OR.1 (by have := HB2.out.size; omega), OR.2⟩
          clear x4
          go_wp2_with fail
          go_ret
          rw [HP.out]
          exact PRes.mk1 (lo := w.heap.size) (HB9.out.alloc hs9 _) (oeds_one (e := insE (e.i + lastI lsF) e.part) (u := .slice A9 e.part.length c9) rfl hs9 (.inr OR2)) (Nat.le_refl _)
        · have hpl : placeP f e.i = e.i := by unfold placeP; rw [if_pos HKF1.out, if_neg c0]
          have HC0 := Lib.hid c0
          rw [hpl]
          clear hpl c0
          have HP := Lib.hid (show passE e f first = [insE (e.i) e.part] by unfold passE; rw [if_pos HKE.out]; congr 1; unfold passI; rw [if_pos HKF1.out, if_neg (by have h1 := HII.out; have h2 := HC0.out; simp [h1]; omega)])
          have x4 : w2.cell? ⟨E, 4, none⟩ = some (.slice AE e.part.length cE) := by simpa using HE2.out.c4
          have xl4 := HE2.out.lt
          go_wp2_with fail
          refine (l02Own_any E 4 _ e.part _ x4 xl4 (SE.out.up HB2.out) hnE).mono ?_
          rintro r9 w9 ⟨v9, rfl, own9, hb9⟩
          obtain ⟨A9, c9, rfl, _⟩ := own_nil own9
          have HB9 := Lib.hid (Below.tr HB2.out hb9)
          have hs9 := HB9.out.size
          have OR := OwnR.of own9
          have OR2 : OwnR w9 w.heap.size w9.heap.size (.slice A9 e.part.length c9) e.part := ⟨ownsRow_more OR.1 (by have := HB2.out.size; omega), OR.2⟩
          clear x4
          go_wp2_with fail
          go_ret
          rw [HP.out]
          exact PRes.mk1 (lo := w.heap.size) (HB9.out.alloc hs9 _) (oeds_one (e := insE (e.i) e.part) (u := .slice A9 e.part.length c9) rfl hs9 (.inr OR2)) (Nat.le_refl _)
    · have HKF1 := Lib.hid hkf
      have x0 := HE1.out.c0
      have x1 : w1.cell? ⟨E, 1, none⟩ = some (.int .i64 e.i) := by simpa using HE1.out.c1
      have x2 : w1.cell? ⟨E, 2, none⟩ = some (.int .i64 e.j) := by simpa using HE1.out.c2
      have xl := HE1.out.lt
      have y0 := HF1.out.c0
      have y1 : w1.cell? ⟨F, 1, none⟩ = some (.int .i64 f.i) := by simpa using HF1.out.c1
      have yl := HF1.out.lt
      rw [hkf] at y0
      clear hkf
      go_wp2_with fail
      go_quiet (fail)
      clear x0 x1 x2 xl y0 y1 yl
      have HE2 := Lib.hid (HE1.out.up (below_drewN (Below.refl w1.heap.size w1) nq))
      have HF2 := Lib.hid (HF1.out.up (below_drewN (Below.refl w1.heap.size w1) nq))
      have HB2 := Lib.hid (below_drewN HB1.out nq)
      clear HE1 HF1 HB1
      generalize w1.drewN nq = w2 at *
      have hpl : placeP f e.i = lessP f e.i := by unfold placeP; rw [if_neg (by rw [HKF1.out]; decide), if_pos HKF1.out]
      rw [hpl]
      clear hpl
      have HP := Lib.hid (show passE e f first = [insE (lessP f e.i) e.part] by unfold passE; rw [if_pos HKE.out]; congr 1; unfold passI; rw [if_neg (by rw [HKF1.out]; decide)])
      have x4 : w2.cell? ⟨E, 4, none⟩ = some (.slice AE e.part.length cE) := by simpa using HE2.out.c4
      have xl4 := HE2.out.lt
      go_wp2_with fail
      refine (l02Own_any E 4 _ e.part _ x4 xl4 (SE.out.up HB2.out) hnE).mono ?_
      rintro r9 w9 ⟨v9, rfl, own9, hb9⟩
      obtain ⟨A9, c9, rfl, _⟩ := own_nil own9
      have HB9 := Lib.hid (Below.tr HB2.out hb9)
      have hs9 := HB9.out.size
      have OR := OwnR.of own9
      have OR2 : OwnR w9 w.heap.size w9.heap.size (.slice A9 e.part.length c9) e.part := ⟨ownsRow_more OR.1 (by have := HB2.out.size; omega), OR.2⟩
      clear x4
      go_wp2_with fail
      go_ret
      rw [HP.out]
      exact PRes.mk1 (lo := w.heap.size) (HB9.out.alloc hs9 _) (oeds_one (e := insE (lessP f e.i) e.part) (u := .slice A9 e.part.length c9) rfl hs9 (.inr OR2)) (Nat.le_refl _)
  · skip
    have x0 := HE.out.c0
    have x1 : w.cell? ⟨E, 1, none⟩ = some (.int .i64 e.i) := by simpa using HE.out.c1
    have x2 : w.cell? ⟨E, 2, none⟩ = some (.int .i64 e.j) := by simpa using HE.out.c2
    have xl := HE.out.lt
    have y0 := HF.out.c0
    have y1 : w.cell? ⟨F, 1, none⟩ = some (.int .i64 f.i) := by simpa using HF.out.c1
    have yl := HF.out.lt
    rw [hk] at x0
    have HKE := Lib.hid hk
    have HK1 := Lib.hid (show ¬ e.kind = 1 by omega)
    go_enter Try.func60, Try.ntmps60
    go_upto_region 7 with fail
    have bA := (Below.refl w.heap.size w).alloc (Nat.le_refl _) (Obj.cells #[] 34)
    have hKO := oedp_empty (W := w) (lo := w.heap.size) rfl (Nat.le_refl _)
    have HE1 := Lib.hid (HE.out.up bA)
    have HF1 := Lib.hid (HF.out.up bA)
    have HB1 := Lib.hid bA
    have HKO1 := Lib.hid hKO
    have hs1 : w.heap.size < (w.alloc (Obj.cells #[] 34)).heap.size := by simp
    clear bA hKO x0 x1 x2 xl y0 y1 yl HE HF
    generalize w.alloc (Obj.cells #[] 34) = w1 at *
    by_cases hij : e.i = e.j
    · have hbq : (e.i == e.j) = true := by simp [hij]
      have HP := Lib.hid (show passE e f first = [] by unfold passE; rw [if_neg HK1.out, if_pos hij])
      have x0 := HE1.out.c0
      have x1 : w1.cell? ⟨E, 1, none⟩ = some (.int .i64 e.i) := by simpa using HE1.out.c1
      have x2 : w1.cell? ⟨E, 2, none⟩ = some (.int .i64 e.j) := by simpa using HE1.out.c2
      have xl := HE1.out.lt
      have y0 := HF1.out.c0
      have y1 : w1.cell? ⟨F, 1, none⟩ = some (.int .i64 f.i) := by simpa using HF1.out.c1
      have yl := HF1.out.lt
      clear hij
      go_wp2_with fail
      go_quiet (fail)
      clear x0 x1 x2 xl y0 y1 yl
      have HE2 := Lib.hid (HE1.out.up (below_drewN (Below.refl w1.heap.size w1) nq))
      have HF2 := Lib.hid (HF1.out.up (below_drewN (Below.refl w1.heap.size w1) nq))
      have HB2 := Lib.hid (below_drewN HB1.out nq)
      have HKO2 := Lib.hid (HKO1.out.keep (below_drewN (Below.refl w1.heap.size w1) nq) (by omega))
      have hs2 : w.heap.size < (w1.drewN nq).heap.size := hs1
      clear HE1 HF1 HB1 HKO1
      generalize w1.drewN nq = w2 at *
      go_wp2_with fail
      go_ret
      rw [HP.out]
      exact PRes.mk1 (lo := w.heap.size) HB2.out (OEdP.oeds HKO2.out (by omega)) (Nat.le_refl _)
    · have hbq : (e.i == e.j) = false := by simp [hij]
      have HIJ := Lib.hid hij
      have x0 := HE1.out.c0
      have x1 : w1.cell? ⟨E, 1, none⟩ = some (.int .i64 e.i) := by simpa using HE1.out.c1
      have x2 : w1.cell? ⟨E, 2, none⟩ = some (.int .i64 e.j) := by simpa using HE1.out.c2
      have xl := HE1.out.lt
      have y0 := HF1.out.c0
      have y1 : w1.cell? ⟨F, 1, none⟩ = some (.int .i64 f.i) := by simpa using HF1.out.c1
      have yl := HF1.out.lt
      clear hij
      go_wp2_with fail
      go_quiet (fail)
      clear x0 x1 x2 xl y0 y1 yl
      have HE2 := Lib.hid (HE1.out.up (below_drewN (Below.refl w1.heap.size w1) nq))
      have HF2 := Lib.hid (HF1.out.up (below_drewN (Below.refl w1.heap.size w1) nq))
      have HB2 := Lib.hid (below_drewN HB1.out nq)
      have HKO2 := Lib.hid (HKO1.out.keep (below_drewN (Below.refl w1.heap.size w1) nq) (by omega))
      have hs2 : w.heap.size < (w1.drewN nq).heap.size := hs1
      clear HE1 HF1 HB1 HKO1
      generalize w1.drewN nq = w2 at *
      rcases HKF.out with hkf | hkf
      · have HKF1 := Lib.hid hkf
        have x0 := HE2.out.c0
        have x1 : w2.cell? ⟨E, 1, none⟩ = some (.int .i64 e.i) := by simpa using HE2.out.c1
        have x2 : w2.cell? ⟨E, 2, none⟩ = some (.int .i64 e.j) := by simpa using HE2.out.c2
        have xl := HE2.out.lt
        have y0 := HF2.out.c0
        have y1 : w2.cell? ⟨F, 1, none⟩ = some (.int .i64 f.i) := by simpa using HF2.out.c1
        have yl := HF2.out.lt
        rw [hkf] at y0
        clear hkf
        have y4 : w2.cell? ⟨F, 4, none⟩ = some (.slice AF f.part.length cF) := by simpa using HF2.out.c4
        go_wp2_with fail
        refine (l02Length_any F 4 _ f.part lsF _ HLF.out y4 yl (SF.out.up HB2.out) smF.out hnF).mono ?_
        rintro r3 w3 ⟨rfl, hb3⟩
        clear x0 x1 x2 xl y0 y1 yl y4
        have HE3 := Lib.hid (HE2.out.up hb3)
        have HF3 := Lib.hid (HF2.out.up hb3)
        have HB3 := Lib.hid (Below.tr HB2.out hb3)
        have HKO3 := Lib.hid (HKO2.out.keep hb3 (by omega))
        have hs3 : w.heap.size < w3.heap.size := Nat.lt_of_lt_of_le hs2 hb3.size
        have hG := HGB.out
        have w1a : IntKind.i64.wrap (e.i + lastI lsF) = e.i + lastI lsF := IntWalk.i64_in _ (by omega)
        have w2a : IntKind.i64.wrap (e.j + lastI lsF) = e.j + lastI lsF := IntWalk.i64_in _ (by omega)
        have w3a : IntKind.i64.wrap (f.i + lastI lsF) = f.i + lastI lsF := IntWalk.i64_in _ (by omega)
        clear hb3 HE2 HF2 HB2 HKO2 hG
        by_cases c1 : f.i ≤ e.i
        · have HP := Lib.hid (show passE e f first = [delE (e.i + lastI lsF) (e.j + lastI lsF)] by unfold passE; rw [if_neg HK1.out, if_neg HIJ.out, if_pos HKF1.out, if_pos c1, HGF.out])
          have x0 := HE3.out.c0
          have x1 : w3.cell? ⟨E, 1, none⟩ = some (.int .i64 e.i) := by simpa using HE3.out.c1
          have x2 : w3.cell? ⟨E, 2, none⟩ = some (.int .i64 e.j) := by simpa using HE3.out.c2
          have xl := HE3.out.lt
          have y0 := HF3.out.c0
          have y1 : w3.cell? ⟨F, 1, none⟩ = some (.int .i64 f.i) := by simpa using HF3.out.c1
          have yl := HF3.out.lt
          go_wp2_with fail
          go_quiet (fail)
          clear x0 x1 x2 xl y0 y1 yl
          have HE4 := Lib.hid (HE3.out.up (below_drewN (Below.refl w3.heap.size w3) nq))
          have HF4 := Lib.hid (HF3.out.up (below_drewN (Below.refl w3.heap.size w3) nq))
          have HB4 := Lib.hid (below_drewN HB3.out nq)
          have HKO4 := Lib.hid (HKO3.out.keep (below_drewN (Below.refl w3.heap.size w3) nq) (by omega))
          have hs4 : w.heap.size < (w3.drewN nq).heap.size := hs3
          clear HE3 HF3 HB3 HKO3
          generalize w3.drewN nq = w4 at *
          have x0 := HE4.out.c0
          have x1 : w4.cell? ⟨E, 1, none⟩ = some (.int .i64 e.i) := by simpa using HE4.out.c1
          have x2 : w4.cell? ⟨E, 2, none⟩ = some (.int .i64 e.j) := by simpa using HE4.out.c2
          have xl := HE4.out.lt
          have y0 := HF4.out.c0
          have y1 : w4.cell? ⟨F, 1, none⟩ = some (.int .i64 f.i) := by simpa using HF4.out.c1
          have yl := HF4.out.lt
          have KS : ∀ W : World, (∀ x, x < w.heap.size → W.heap[x]? = w4.heap[x]?) → W.cell? ⟨E, 1, none⟩ = some (.int .i64 e.i) ∧ W.cell? ⟨E, 2, none⟩ = some (.int .i64 e.j) := fun W hW => ⟨(by simpa using (HE4.out.same (hW E HEL.out)).c1), (by simpa using (HE4.out.same (hW E HEL.out)).c2)⟩
          have KD := KS w4.drew (fun _ _ => rfl)
          have KA := fun (o : Obj) => KS (w4.alloc o).drew (fun x hx => Below.heap_alloc w4 o x (by omega))
          go_wp2_with fail
          go_region_held3 (fun w' => w'.cell? ⟨E, 1, none⟩ = some (.int .i64 e.i) ∧ w'.cell? ⟨E, 2, none⟩ = some (.int .i64 e.j))
            (first | (with_reducible exact KD) | (with_reducible exact KA _) | (with_reducible exact KS _ k9))
            (first
              | (refine step_push_edit w4.drew (e := delE (e.i + lastI lsF) (e.j + lastI lsF)) (u := .slice none 0 0) (by rfl) (by rfl) _ _ (by rfl) (lo := w.heap.size) (hp := w.heap.size) (pa := w.heap.size) (pb := w.heap.size) (v := .slice (some ⟨w.heap.size, 0, none⟩) 0 0) (es := []) (by rfl) (by first | rfl | simp) rfl (HKO4.out.keep (Below.drew (Below.refl _ _)) (by omega)) (by simp) (show w.heap.size ≤ w4.heap.size by omega) (by simp [Value.oneCell']) ⟨.inl ⟨rfl, none, 0, rfl, Nat.zero_le _⟩, fun g hg => by omega⟩ (Nat.le_refl _) (Nat.le_refl _) (show w.heap.size ≤ w4.heap.size by omega) (Nat.le_refl _) ?_; intro g9 c9' w9 own9 hg9 hgr9 hb9; have k9 : ∀ x, x < w.heap.size → w9.heap[x]? = w4.heap[x]? := (fun x hx => hb9.block x hx)))
          go_wp2_with fail
          go_ret
          rw [HP.out]
          exact PRes.mk1 (lo := w.heap.size) (Below.trans (Below.drew HB4.out) hb9) (OEdP.oeds own9 (by have h : w4.heap.size ≤ w9.heap.size := hb9.size; omega)) (Nat.le_refl _)
        · have d1 : decide (f.i ≤ e.i) = false := by simp; omega
          have HC1 := Lib.hid c1
          clear c1
          have x0 := HE3.out.c0
          have x1 : w3.cell? ⟨E, 1, none⟩ = some (.int .i64 e.i) := by simpa using HE3.out.c1
          have x2 : w3.cell? ⟨E, 2, none⟩ = some (.int .i64 e.j) := by simpa using HE3.out.c2
          have xl := HE3.out.lt
          have y0 := HF3.out.c0
          have y1 : w3.cell? ⟨F, 1, none⟩ = some (.int .i64 f.i) := by simpa using HF3.out.c1
          have yl := HF3.out.lt
          go_wp2_with fail
          go_quiet (fail)
          clear x0 x1 x2 xl y0 y1 yl
          have HE4 := Lib.hid (HE3.out.up (below_drewN (Below.refl w3.heap.size w3) nq))
          have HF4 := Lib.hid (HF3.out.up (below_drewN (Below.refl w3.heap.size w3) nq))
          have HB4 := Lib.hid (below_drewN HB3.out nq)
          have HKO4 := Lib.hid (HKO3.out.keep (below_drewN (Below.refl w3.heap.size w3) nq) (by omega))
          have hs4 : w.heap.size < (w3.drewN nq).heap.size := hs3
          clear HE3 HF3 HB3 HKO3
          generalize w3.drewN nq = w4 at *
          by_cases c2 : e.j ≤ f.i
          · have HP := Lib.hid (show passE e f first = [delE e.i e.j] by unfold passE; rw [if_neg HK1.out, if_neg HIJ.out, if_pos HKF1.out, if_neg (by have := HC1.out; omega), if_pos c2])
            have x0 := HE4.out.c0
            have x1 : w4.cell? ⟨E, 1, none⟩ = some (.int .i64 e.i) := by simpa using HE4.out.c1
            have x2 : w4.cell? ⟨E, 2, none⟩ = some (.int .i64 e.j) := by simpa using HE4.out.c2
            have xl := HE4.out.lt
            have y0 := HF4.out.c0
            have y1 : w4.cell? ⟨F, 1, none⟩ = some (.int .i64 f.i) := by simpa using HF4.out.c1
            have yl := HF4.out.lt
            go_wp2_with fail
            go_quiet (fail)
            clear x0 x1 x2 xl y0 y1 yl
            have HE5 := Lib.hid (HE4.out.up (below_drewN (Below.refl w4.heap.size w4) nq))
            have HF5 := Lib.hid (HF4.out.up (below_drewN (Below.refl w4.heap.size w4) nq))
            have HB5 := Lib.hid (below_drewN HB4.out nq)
            have HKO5 := Lib.hid (HKO4.out.keep (below_drewN (Below.refl w4.heap.size w4) nq) (by omega))
            have hs5 : w.heap.size < (w4.drewN nq).heap.size := hs4
            clear HE4 HF4 HB4 HKO4
            generalize w4.drewN nq = w5 at *
            have x0 := HE5.out.c0
            have x1 : w5.cell? ⟨E, 1, none⟩ = some (.int .i64 e.i) := by simpa using HE5.out.c1
            have x2 : w5.cell? ⟨E, 2, none⟩ = some (.int .i64 e.j) := by simpa using HE5.out.c2
            have xl := HE5.out.lt
            have y0 := HF5.out.c0
            have y1 : w5.cell? ⟨F, 1, none⟩ = some (.int .i64 f.i) := by simpa using HF5.out.c1
            have yl := HF5.out.lt
            have KS : ∀ W : World, (∀ x, x < w.heap.size → W.heap[x]? = w5.heap[x]?) → W.cell? ⟨E, 1, none⟩ = some (.int .i64 e.i) ∧ W.cell? ⟨E, 2, none⟩ = some (.int .i64 e.j) := fun W hW => ⟨(by simpa using (HE5.out.same (hW E HEL.out)).c1), (by simpa using (HE5.out.same (hW E HEL.out)).c2)⟩
            have KD := KS w5.drew (fun _ _ => rfl)
            have KA := fun (o : Obj) => KS (w5.alloc o).drew (fun x hx => Below.heap_alloc w5 o x (by omega))
            go_wp2_with fail
            go_region_held3 (fun w' => w'.cell? ⟨E, 1, none⟩ = some (.int .i64 e.i) ∧ w'.cell? ⟨E, 2, none⟩ = some (.int .i64 e.j))
              (first | (with_reducible exact KD) | (with_reducible exact KA _) | (with_reducible exact KS _ k9))
              (first
                | (refine step_push_edit w5.drew (e := delE (e.i) (e.j)) (u := .slice none 0 0) (by rfl) (by rfl) _ _ (by rfl) (lo := w.heap.size) (hp := w.heap.size) (pa := w.heap.size) (pb := w.heap.size) (v := .slice (some ⟨w.heap.size, 0, none⟩) 0 0) (es := []) (by rfl) (by first | rfl | simp) rfl (HKO5.out.keep (Below.drew (Below.refl _ _)) (by omega)) (by simp) (show w.heap.size ≤ w5.heap.size by omega) (by simp [Value.oneCell']) ⟨.inl ⟨rfl, none, 0, rfl, Nat.zero_le _⟩, fun g hg => by omega⟩ (Nat.le_refl _) (Nat.le_refl _) (show w.heap.size ≤ w5.heap.size by omega) (Nat.le_refl _) ?_; intro g9 c9' w9 own9 hg9 hgr9 hb9; have k9 : ∀ x, x < w.heap.size → w9.heap[x]? = w5.heap[x]? := (fun x hx => hb9.block x hx)))
            go_wp2_with fail
            go_ret
            rw [HP.out]
            exact PRes.mk1 (lo := w.heap.size) (Below.trans (Below.drew HB5.out) hb9) (OEdP.oeds own9 (by have h : w5.heap.size ≤ w9.heap.size := hb9.size; omega)) (Nat.le_refl _)
          · have d2 : decide (e.j ≤ f.i) = false := by simp; omega
            have HP := Lib.hid (show passE e f first = [delE (f.i + lastI lsF) (e.j + lastI lsF), delE e.i f.i] by unfold passE; rw [if_neg HK1.out, if_neg HIJ.out, if_pos HKF1.out, if_neg (by have := HC1.out; omega), if_neg (by omega), HGF.out])
            have x0 := HE4.out.c0
            have x1 : w4.cell? ⟨E, 1, none⟩ = some (.int .i64 e.i) := by simpa using HE4.out.c1
            have x2 : w4.cell? ⟨E, 2, none⟩ = some (.int .i64 e.j) := by simpa using HE4.out.c2
            have xl := HE4.out.lt
            have y0 := HF4.out.c0
            have y1 : w4.cell? ⟨F, 1, none⟩ = some (.int .i64 f.i) := by simpa using HF4.out.c1
            have yl := HF4.out.lt
            go_wp2_with fail
            go_quiet (fail)
            clear x0 x1 x2 xl y0 y1 yl
            have HE5 := Lib.hid (HE4.out.up (below_drewN (Below.refl w4.heap.size w4) nq))
            have HF5 := Lib.hid (HF4.out.up (below_drewN (Below.refl w4.heap.size w4) nq))
            have HB5 := Lib.hid (below_drewN HB4.out nq)
            have HKO5 := Lib.hid (HKO4.out.keep (below_drewN (Below.refl w4.heap.size w4) nq) (by omega))
            have hs5 : w.heap.size < (w4.drewN nq).heap.size := hs4
            clear HE4 HF4 HB4 HKO4
            generalize w4.drewN nq = w5 at *
            have x0 := HE5.out.c0
            have x1 : w5.cell? ⟨E, 1, none⟩ = some (.int .i64 e.i) := by simpa using HE5.out.c1
            have x2 : w5.cell? ⟨E, 2, none⟩ = some (.int .i64 e.j) := by simpa using HE5.out.c2
            have xl := HE5.out.lt
            have y0 := HF5.out.c0
            have y1 : w5.cell? ⟨F, 1, none⟩ = some (.int .i64 f.i) := by simpa using HF5.out.c1
            have yl := HF5.out.lt
            have KS : ∀ W : World, (∀ x, x < w.heap.size → W.heap[x]? = w5.heap[x]?) → W.cell? ⟨E, 1, none⟩ = some (.int .i64 e.i) ∧ W.cell? ⟨E, 2, none⟩ = some (.int .i64 e.j) ∧ W.cell? ⟨F, 1, none⟩ = some (.int .i64 f.i) := fun W hW => ⟨(by simpa using (HE5.out.same (hW E HEL.out)).c1), (by simpa using (HE5.out.same (hW E HEL.out)).c2), (by simpa using (HF5.out.same (hW F HFL.out)).c1)⟩
            have KD := KS w5.drew (fun _ _ => rfl)
            have KA := fun (o : Obj) => KS (w5.alloc o).drew (fun x hx => Below.heap_alloc w5 o x (by omega))
            go_wp2_with fail
            go_region_held3 (fun w' => w'.cell? ⟨E, 1, none⟩ = some (.int .i64 e.i) ∧ w'.cell? ⟨E, 2, none⟩ = some (.int .i64 e.j) ∧ w'.cell? ⟨F, 1, none⟩ = some (.int .i64 f.i))
              (first | (with_reducible exact KD) | (with_reducible exact KA _) | (with_reducible exact KS _ k9))
              (first
                | (refine step_push_edit2 w5.drew (i1 := f.i + lastI lsF) (j1 := e.j + lastI lsF) (i2 := e.i) (j2 := f.i) (by rfl) (by rfl) _ _ (by rfl) (lo := w.heap.size) (v := .slice (some ⟨w.heap.size, 0, none⟩) 0 0) (es := []) (by rfl) (by first | rfl | simp) rfl (HKO5.out.keep (Below.drew (Below.refl _ _)) (by omega)) (by simp) (show w.heap.size ≤ w5.heap.size by omega) ?_; intro v9 w9 own9 hb9; have k9 : ∀ x, x < w.heap.size → w9.heap[x]? = w5.heap[x]? := (fun x hx => hb9.block x hx)))
            go_wp2_with fail
            go_ret
            rw [HP.out]
            exact PRes.mk1 (lo := w.heap.size) (Below.trans (Below.drew HB5.out) hb9) (OEdP.oeds own9 (by have h : w5.heap.size ≤ w9.heap.size := hb9.size; omega)) (Nat.le_refl _)
      · have HKF1 := Lib.hid hkf
        have x0 := HE2.out.c0
        have x1 : w2.cell? ⟨E, 1, none⟩ = some (.int .i64 e.i) := by simpa using HE2.out.c1
        have x2 : w2.cell? ⟨E, 2, none⟩ = some (.int .i64 e.j) := by simpa using HE2.out.c2
        have xl := HE2.out.lt
        have y0 := HF2.out.c0
        have y1 : w2.cell? ⟨F, 1, none⟩ = some (.int .i64 f.i) := by simpa using HF2.out.c1
        have yl := HF2.out.lt
        rw [hkf] at y0
        clear hkf
        go_wp2_with fail
        refine (l07Less_any F _ f e.i _ (EC.at_ HF2.out (SF.out.up HB2.out)) (by omega) (by omega) (by omega)).mono ?_
        rintro r3 w3 ⟨rfl, hb3⟩
        clear x0 x1 x2 xl y0 y1 yl
        have HE3 := Lib.hid (HE2.out.up hb3)
        have HF3 := Lib.hid (HF2.out.up hb3)
        have HB3 := Lib.hid (Below.tr HB2.out hb3)
        have HKO3 := Lib.hid (HKO2.out.keep hb3 (by omega))
        have hs3 : w.heap.size < w3.heap.size := Nat.lt_of_lt_of_le hs2 hb3.size
        clear hb3 HE2 HF2 HB2 HKO2
        have x0 := HE3.out.c0
        have x1 : w3.cell? ⟨E, 1, none⟩ = some (.int .i64 e.i) := by simpa using HE3.out.c1
        have x2 : w3.cell? ⟨E, 2, none⟩ = some (.int .i64 e.j) := by simpa using HE3.out.c2
        have xl := HE3.out.lt
        have y0 := HF3.out.c0
        have y1 : w3.cell? ⟨F, 1, none⟩ = some (.int .i64 f.i) := by simpa using HF3.out.c1
        have yl := HF3.out.lt
        go_wp2_with fail
        refine (l07Less_any F _ f e.j _ (EC.at_ HF3.out (SF.out.up HB3.out)) (by omega) (by omega) (by omega)).mono ?_
        rintro r4 w4 ⟨rfl, hb4⟩
        clear x0 x1 x2 xl y0 y1 yl
        have HB4 := Lib.hid (Below.tr HB3.out hb4)
        have HKO4 := Lib.hid (HKO3.out.keep hb4 (by omega))
        have hs4 : w.heap.size < w4.heap.size := Nat.lt_of_lt_of_le hs3 hb4.size
        clear hb4 HB3 HKO3
        have hPP := show passE e f first = remE (lessP f e.i) (lessP f e.j) by unfold passE; rw [if_neg HK1.out, if_neg HIJ.out, if_neg (by rw [HKF1.out]; decide)]
        obtain ⟨a, ha⟩ : ∃ a, lessP f e.i = a := ⟨_, rfl⟩
        obtain ⟨b, hb⟩ : ∃ b, lessP f e.j = b := ⟨_, rfl⟩
        rw [ha, hb] at hPP ⊢
        have HPP := Lib.hid hPP
        clear hPP ha hb
        by_cases hab : a < b
        · have HP := Lib.hid (show passE e f first = [delE a b] by rw [HPP.out]; unfold remE; rw [if_pos hab])
          go_wp2_with (first
            | (at_builtin; refine push_edit (W := w4) (N := w4.heap.size) (e := delE a b) (u := .slice none 0 0) (lo := w.heap.size) (hp := w.heap.size) (pa := w.heap.size) (pb := w.heap.size) (v := .slice (some ⟨w.heap.size, 0, none⟩) 0 0) (es := []) rfl _ _ rfl rfl rfl rfl HKO4.out (by simp) (by omega) (by simp [Value.oneCell']) ⟨.inl ⟨rfl, none, 0, rfl, Nat.zero_le _⟩, fun g hg => by omega⟩ (Nat.le_refl _) (Nat.le_refl _) (by omega) (Nat.le_refl _) ?_; intro g9 c9' w9 own9 hg9 hgr9 hb9))
          go_ret
          rw [HP.out]
          exact PRes.mk1 (lo := w.heap.size) (Below.trans HB4.out hb9) (OEdP.oeds own9 (by have h : w4.heap.size ≤ w9.heap.size := hb9.size; omega)) (Nat.le_refl _)
        · have HP := Lib.hid (show passE e f first = [] by rw [HPP.out]; unfold remE; rw [if_neg hab])
          have hd : decide (a < b) = false := by simp; omega
          go_wp2_with fail
          go_ret
          rw [HP.out]
          exact PRes.mk1 (lo := w.heap.size) HB4.out (OEdP.oeds HKO4.out (by omega)) (Nat.le_refl _)
end Go.Proofs.Ytfapnipmgmpgaaa

