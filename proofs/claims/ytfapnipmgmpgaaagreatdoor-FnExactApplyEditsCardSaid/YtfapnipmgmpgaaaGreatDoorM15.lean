import Derived.Test.YtfapnipmgmpgaaaGreatDoorM14
import Derived.Test.YtfapnipmgmpgaaaGreatDoorM2
namespace Go.Proofs.YtfapnipmgmpgaaaGreatDoor
open Go.RowKit

/-- The six cells of an edit. -/
def epCells (p : GEdit × Value) : List Value := [.int .i64 p.1.kind, .int .i64 p.1.i, .int .i64 p.1.j, .int .i64 p.1.k, p.2, .string p.1.map]
theorem ep_len (ps : List (GEdit × Value)) : (ps.flatMap epCells).length = ps.length * 6 := by
  induction ps with
  | nil => rfl
  | cons x xs ih => rw [List.flatMap_cons, List.length_append, ih]; simp [epCells]; omega
theorem set6 (ps : List (GEdit × Value)) (k : Nat) (p : GEdit × Value) (h : k < ps.length) :
    ((((((ps.flatMap epCells).set (k * 6) (.int .i64 p.1.kind)).set (k * 6 + 1) (.int .i64 p.1.i)).set (k * 6 + 2) (.int .i64 p.1.j)).set (k * 6 + 3) (.int .i64 p.1.k)).set (k * 6 + 4) p.2).set (k * 6 + 5) (.string p.1.map) = (ps.set k p).flatMap epCells := by
  induction ps generalizing k with
  | nil => simp at h
  | cons x xs ih =>
    cases k with
    | zero => simp [epCells]
    | succ k =>
      have := ih k (by simpa using h)
      simp only [List.flatMap_cons, List.set_cons_succ]
      have e : (epCells x).length = 6 := rfl
      rw [List.set_append, if_neg (by omega), e, List.set_append, if_neg (by omega), e, List.set_append, if_neg (by omega), e, List.set_append, if_neg (by omega), e, List.set_append, if_neg (by omega), e, List.set_append, if_neg (by omega), e]
      rw [show (k+1)*6-6 = k*6 by omega, show (k+1)*6+1-6 = k*6+1 by omega, show (k+1)*6+2-6 = k*6+2 by omega, show (k+1)*6+3-6 = k*6+3 by omega, show (k+1)*6+4-6 = k*6+4 by omega, show (k+1)*6+5-6 = k*6+5 by omega, this]
theorem ep_at (ps : List (GEdit × Value)) (k : Nat) (p : GEdit × Value) (h : ps[k]? = some p) (j : Nat) (hj : j < 6) : (ps.flatMap epCells)[k * 6 + j]? = (epCells p)[j]? := by
  induction ps generalizing k with
  | nil => simp at h
  | cons x xs ih =>
    cases k with
    | zero =>
      simp at h; subst h
      rw [List.flatMap_cons, List.getElem?_append_left (by simp [epCells]; omega), Nat.zero_mul, Nat.zero_add]
    | succ k =>
      have := ih k (by simpa using h)
      rw [List.flatMap_cons, List.getElem?_append_right (by simp [epCells]; omega)]
      rw [show (k + 1) * 6 + j - (epCells x).length = k * 6 + j by simp [epCells]; omega]
      exact this
theorem set_same {α : Type} {l : List α} {k : Nat} {x : α} (h : l[k]? = some x) : l.set k x = l := by
  apply List.ext_getElem?
  intro i
  by_cases hi : k = i
  · subst hi
    rw [List.getElem?_set_self (List.getElem?_eq_some_iff.1 h).1, h]
  · rw [List.getElem?_set_ne hi]
theorem set5 (ps : List (GEdit × Value)) (k : Nat) (p q : GEdit × Value) (hq : ps[k]? = some q) (h2 : q.2 = p.2) :
    (((((ps.flatMap epCells).set (k * 6) (.int .i64 p.1.kind)).set (k * 6 + 1) (.int .i64 p.1.i)).set (k * 6 + 2) (.int .i64 p.1.j)).set (k * 6 + 3) (.int .i64 p.1.k)).set (k * 6 + 5) (.string p.1.map) = (ps.set k p).flatMap epCells := by
  have hk : k < ps.length := (List.getElem?_eq_some_iff.1 hq).1
  rw [← set6 ps k p hk]
  congr 1
  refine (set_same ?_).symm
  rw [List.getElem?_set_ne (by omega), List.getElem?_set_ne (by omega), List.getElem?_set_ne (by omega), List.getElem?_set_ne (by omega), ep_at ps k q hq 4 (by omega), ← h2]; rfl

/-- The rules of one edit of a row: nothing, or a row of its own between two numbers, apart from the row of edits v. -/
def PartAt (w : World) (v : Value) (a b : Nat) (p : GEdit × Value) : Prop :=
  ((p.1.part = [] ∧ ∃ A c, p.2 = .slice A 0 c ∧ c ≤ maxLen) ∨ OwnR w a b p.2 p.1.part) ∧ ∀ g, v.ownBlock = some g → g < a ∨ b ≤ g
theorem PartAt.keep {w w' : World} {v : Value} {a b : Nat} {p : GEdit × Value} (h : PartAt w v a b p) (hk : ∀ g, a ≤ g → g < b → w'.heap[g]? = w.heap[g]?) (hs : w.heap.size ≤ w'.heap.size) : PartAt w' v a b p := by
  refine ⟨?_, h.2⟩
  rcases h.1 with h | h1
  · exact .inl h
  · exact .inr ⟨own_keep h1.1 fun g hg => hk g (h1.rng g hg).1 (h1.rng g hg).2, h1.2.1, Nat.le_trans h1.2.2 hs⟩
theorem PartAt.row {w w' : World} {v : Value} {a b g : Nat} {p : GEdit × Value} (h : PartAt w v a b p) (hv : v.ownBlock = some g) (hb : b ≤ w.heap.size) (hg : w.grownBy w' (some g)) : PartAt w' v a b p :=
  h.keep (fun g' h1 h2 => hg.block g' (by omega) (fun e => by have := h.2 g hv; simp at e; omega)) hg.size
theorem PartAt.sl {w : World} {v : Value} {a b : Nat} {p : GEdit × Value} (h : PartAt w v a b p) : Sl RuleE w w.heap.size p.2 p.1.part := by
  rcases h.1 with ⟨h1, A, c, h2, h3⟩ | h1
  · rw [h1, h2]; exact ⟨A, c, rfl, Nat.zero_le _, h3, fun h => absurd h (by simp)⟩
  · exact h1.sl
structure PartsR (w : World) (v : Value) (lo hi : Nat) (r : Nat → Nat) (ps : List (GEdit × Value)) : Prop where
  low : lo ≤ r 0
  mono : ∀ i j, i ≤ j → r i ≤ r j
  high : ∀ i, r i ≤ hi
  at_ : ∀ i p, ps[i]? = some p → PartAt w v (r (2 * i)) (r (2 * i + 1)) p
theorem PartsR.keep {w w' : World} {v : Value} {lo hi : Nat} {r : Nat → Nat} {ps : List (GEdit × Value)} (h : PartsR w v lo hi r ps) (hk : ∀ g, lo ≤ g → g < hi → v.ownBlock ≠ some g → w'.heap[g]? = w.heap[g]?) (hs : w.heap.size ≤ w'.heap.size) : PartsR w' v lo hi r ps := by
  refine ⟨h.low, h.mono, h.high, fun i p hp => ?_⟩
  obtain ⟨h0, h2⟩ := h.at_ i p hp
  refine ⟨?_, h2⟩
  rcases h0 with h1 | h1
  · exact .inl h1
  · refine .inr ⟨own_keep h1.1 fun g hg => ?_, h1.2.1, Nat.le_trans h1.2.2 hs⟩
    have hr := h1.rng g hg
    have a1 := h.mono 0 (2 * i) (Nat.zero_le _)
    have a2 := h.high (2 * i + 1)
    have a3 := h.low
    refine hk g (by omega) (by omega) fun e => ?_
    have := h2 g e
    omega
theorem PartsR.mark {w w' : World} {v : Value} {lo hi : Nat} {r : Nat → Nat} {ps : List (GEdit × Value)} (h : PartsR w v lo hi r ps) (n : Nat) (q : GEdit × Value) (hq : PartAt w' v (r (2 * n)) (r (2 * n + 1)) q)
    (hk : ∀ g, g < w.heap.size → v.ownBlock ≠ some g → g < r (2 * n) ∨ r (2 * n + 1) ≤ g → w'.heap[g]? = w.heap[g]?) (hs : w.heap.size ≤ w'.heap.size) : PartsR w' v lo hi r (ps.set n q) := by
  refine ⟨h.low, h.mono, h.high, fun i p hp => ?_⟩
  by_cases hi' : n = i
  · subst hi'
    have : n < ps.length := by
      have := (List.getElem?_eq_some_iff.1 hp).1
      simpa using this
    rw [List.getElem?_set_self this] at hp
    cases hp; exact hq
  · rw [List.getElem?_set_ne hi'] at hp
    obtain ⟨h0, h2⟩ := h.at_ i p hp
    refine ⟨?_, h2⟩
    rcases h0 with h1 | h1
    · exact .inl h1
    · refine .inr ⟨own_keep h1.1 fun g hg => ?_, h1.2.1, Nat.le_trans h1.2.2 hs⟩
      have hr := h1.rng g hg
      refine hk g (by have := h1.2.2; omega) (fun e => by have := h2 g e; omega) ?_
      rcases Nat.lt_or_ge i n with hlt | hge
      · have := h.mono (2 * i + 1) (2 * n) (by omega); omega
      · have := h.mono (2 * n + 1) (2 * i) (by omega); omega
theorem PartsR.snoc {w : World} {v : Value} {lo hi hi' : Nat} {r : Nat → Nat} {ps : List (GEdit × Value)} {q : GEdit × Value} (h : PartsR w v lo hi r ps) (hq : PartAt w v hi hi' q) (hh : hi ≤ hi') (hl : lo ≤ hi) : ∃ r', PartsR w v lo hi' r' (ps ++ [q]) := by
  refine ⟨fun j => if j < 2 * ps.length then r j else if j = 2 * ps.length then hi else hi', ?_, ?_, ?_, ?_⟩
  · have := h.low
    split
    · omega
    · split <;> omega
  · intro i j hij
    have h1 := h.mono i j hij
    have h2 := h.high i
    repeat' split
    all_goals omega
  · intro i
    have h2 := h.high i
    repeat' split
    all_goals omega
  · intro i p hp
    rcases Nat.lt_or_ge i ps.length with hlt | hge
    · rw [List.getElem?_append_left hlt] at hp
      have := h.at_ i p hp
      simp only [show 2 * i < 2 * ps.length by omega, show 2 * i + 1 < 2 * ps.length by omega, if_true]
      exact this
    · rw [List.getElem?_append_right hge] at hp
      have hi0 : i = ps.length := by
        have := (List.getElem?_eq_some_iff.1 hp).1
        simp at this; omega
      subst hi0
      simp at hp
      subst hp
      simp only [Nat.lt_irrefl, if_false, if_true, show ¬ (2 * ps.length + 1 < 2 * ps.length) by omega, show ¬ (2 * ps.length + 1 = 2 * ps.length) by omega]
      exact hq
theorem PartsR.nil {w : World} {v : Value} {lo hi : Nat} (h : lo ≤ hi) : PartsR w v lo hi (fun _ => hi) [] := ⟨h, fun _ _ _ => Nat.le_refl _, fun _ => Nat.le_refl _, fun i p hp => by simp at hp⟩
theorem PartsR.le {w : World} {v : Value} {lo lo' hi hi' : Nat} {r : Nat → Nat} {ps : List (GEdit × Value)} (h : PartsR w v lo hi r ps) (h1 : lo' ≤ lo) (h2 : hi ≤ hi') : PartsR w v lo' hi' r ps := ⟨Nat.le_trans h1 h.low, h.mono, fun i => Nat.le_trans (h.high i) h2, h.at_⟩
/-- A row of edits of one's own, between two block numbers. -/
def OEds (w : World) (lo hi : Nat) (v : Value) (es : List GEdit) : Prop :=
  ∃ ps r, ps.map Prod.fst = es ∧ w.ownsRow lo 36 6 v es.length (ps.flatMap epCells) ∧ (∀ g, v.ownBlock = some g → g < hi) ∧ hi ≤ w.heap.size ∧ PartsR w v lo hi r ps
section
variable {w w' : World} {lo hi : Nat} {v : Value} {es : List GEdit}
theorem OEds.keep (h : OEds w lo hi v es) (hk : ∀ g, lo ≤ g → g < hi → w'.heap[g]? = w.heap[g]?) (hs : w.heap.size ≤ w'.heap.size) : OEds w' lo hi v es := by
  obtain ⟨ps, r, h1, h2, h3, h4, h5⟩ := h
  exact ⟨ps, r, h1, own_keep h2 fun g hg => hk g (World.ownsRow.lt h2 g hg).1 (h3 g hg), h3, Nat.le_trans h4 hs, h5.keep (fun g a b _ => hk g a b) hs⟩
theorem OEds.up (h : OEds w lo hi v es) (hb : Below w.heap.size w w') : OEds w' lo hi v es := h.keep (fun g _ b => hb.block g (by obtain ⟨_, _, _, _, _, h4, _⟩ := h; omega)) hb.size
theorem OEds.chg {lo' hi' : Nat} (h : OEds w lo hi v es) (hc : Chg lo' hi' w w') (hne : hi ≤ lo' ∨ hi' ≤ lo) : OEds w' lo hi v es :=
  h.keep (fun g a b => hc.block g (by obtain ⟨_, _, _, _, _, h4, _⟩ := h; omega) (by omega)) hc.size
theorem ps_at {ps : List (GEdit × Value)} {i : Nat} {e : GEdit} (h : (ps.map Prod.fst)[i]? = some e) : ∃ u, ps[i]? = some (e, u) := by
  rw [List.getElem?_map] at h
  obtain ⟨p, h1, h2⟩ := Option.map_eq_some_iff.1 h
  exact ⟨p.2, by rw [h1, ← h2]⟩
theorem OEds.sl (h : OEds w lo hi v es) : Sl EditE w w.heap.size v es := by
  obtain ⟨ps, r, rfl, h2, h3, h4, h5⟩ := h
  obtain ⟨A, cap, rfl, c1, c2⟩ := own_nil h2
  refine ⟨A, cap, rfl, c1, c2, Row.of_own (E := EditE) h2 rfl (fun g hg => (World.ownsRow.lt h2 g hg).2) fun k e hx => ?_⟩
  obtain ⟨u, hu⟩ := ps_at hx
  refine ⟨epCells (e, u), ⟨u, rfl, (h5.at_ k _ hu).sl⟩, fun j x hj => ?_⟩
  have hj6 : j < 6 := by have := (List.getElem?_eq_some_iff.1 hj).1; simpa [epCells] using this
  show (ps.flatMap epCells)[k * 6 + j]? = some x
  rw [ep_at ps k _ hu j hj6]; exact hj
end
/-! the marks of a row of edits -/
def mkE (k : Nat) (e : GEdit) : GEdit := ⟨k, (k + 1 : Nat), (k + 2 : Nat), (k + 3 : Nat), marks (k + 4) e.part.length, mtext (k + 4 + 3 * e.part.length)⟩
def mkK (k : Nat) (e : GEdit) : Nat := k + 4 + 3 * e.part.length + 1
def markES : Nat → List GEdit → List GEdit
  | _, [] => []
  | k, e :: es => mkE k e :: markES (mkK k e) es
def markEnd : Nat → List GEdit → Nat
  | k, [] => k
  | k, e :: es => markEnd (mkK k e) es
theorem markES_len (k : Nat) (es : List GEdit) : (markES k es).length = es.length := by
  induction es generalizing k with
  | nil => rfl
  | cons e es ih => simp [markES, ih]
theorem markES_snoc (k : Nat) (es : List GEdit) (e : GEdit) : markES k (es ++ [e]) = markES k es ++ [mkE (markEnd k es) e] := by
  induction es generalizing k with
  | nil => rfl
  | cons x xs ih => simp [markES, markEnd, ih]
theorem markEnd_snoc (k : Nat) (es : List GEdit) (e : GEdit) : markEnd k (es ++ [e]) = mkK (markEnd k es) e := by
  induction es generalizing k with
  | nil => rfl
  | cons x xs ih => simp [markEnd, ih]
theorem markEnd_le (k : Nat) (es : List GEdit) : k ≤ markEnd k es := by
  induction es generalizing k with
  | nil => exact Nat.le_refl _
  | cons x xs ih => have := ih (mkK k x); unfold markEnd; unfold mkK at *; omega
theorem markEnd_take (k : Nat) (es : List GEdit) (n : Nat) (e : GEdit) (h : es[n]? = some e) : markEnd k (es.take (n + 1)) = mkK (markEnd k (es.take n)) e ∧ mkK (markEnd k (es.take n)) e ≤ markEnd k es := by
  have h1 : es.take (n + 1) = es.take n ++ [e] := by rw [List.take_add_one, h]; rfl
  have h2 : markEnd k (es.take (n + 1)) = mkK (markEnd k (es.take n)) e := by rw [h1, markEnd_snoc]
  refine ⟨h2, ?_⟩
  rw [← h2]
  have app : ∀ (a b : List GEdit) (k : Nat), markEnd k (a ++ b) = markEnd (markEnd k a) b := by
    intro a
    induction a with
    | nil => intro b k; rfl
    | cons x xs ih => intro b k; exact ih b (mkK k x)
  have h3 : markEnd k es = markEnd (markEnd k (es.take (n + 1))) (es.drop (n + 1)) := by rw [← app, List.take_append_drop]
  rw [h3]
  exact markEnd_le _ _
theorem markES_at (k : Nat) (es : List GEdit) (n : Nat) (e : GEdit) (h : es[n]? = some e) : (markES k es)[n]? = some (mkE (markEnd k (es.take n)) e) := by
  induction es generalizing k n with
  | nil => simp at h
  | cons x xs ih =>
    cases n with
    | zero => simp at h; subst h; rfl
    | succ n => exact ih (mkK k x) n (by simpa using h)
end Go.Proofs.YtfapnipmgmpgaaaGreatDoor

namespace Go.Proofs.YtfapnipmgmpgaaaGreatDoor
open Go.RowKit

def zE : GEdit := ⟨0, 0, 0, 0, [], ⟨#[]⟩⟩
theorem madeEdits (n : Nat) : (madeCells (Value.agg #[.int .i64 0, .int .i64 0, .int .i64 0, .int .i64 0, .slice none 0 0, .string ⟨#[]⟩]).cells (n * 6)).toList = (List.replicate n ((zE, .slice none 0 0) : GEdit × Value)).flatMap epCells := by
  apply List.ext_getElem?
  intro j
  by_cases hj : j < n * 6
  · have hq : (List.replicate n ((zE, .slice none 0 0) : GEdit × Value))[j / 6]? = some (zE, .slice none 0 0) := by
      rw [List.getElem?_replicate, if_pos (by omega)]
    have hc := ep_at _ _ _ hq (j % 6) (by omega)
    rw [show j / 6 * 6 + j % 6 = j by omega] at hc
    rw [hc]
    have hm : j % 6 = 0 ∨ j % 6 = 1 ∨ j % 6 = 2 ∨ j % 6 = 3 ∨ j % 6 = 4 ∨ j % 6 = 5 := by omega
    have e : (madeCells (Value.agg #[.int .i64 0, .int .i64 0, .int .i64 0, .int .i64 0, .slice none 0 0, .string ⟨#[]⟩]).cells (n * 6)).toList[j]? = some ((#[Value.int .i64 0, .int .i64 0, .int .i64 0, .int .i64 0, .slice none 0 0, .string ⟨#[]⟩] : Array Value).getD (j % 6) undef) := by
      simp [madeCells, hj, Value.cells]
      rcases hm with h | h | h | h | h | h <;> simp [h]
    rw [e]
    rcases hm with h | h | h | h | h | h <;> rw [h] <;> rfl
  · rw [List.getElem?_eq_none (by simp [madeCells]; omega), List.getElem?_eq_none (by rw [ep_len]; simp; omega)]
theorem stored6 {w : World} {base g n cap : Nat} {ps : List (GEdit × Value)} (h : w.ownsRow base 36 6 (.slice (some ⟨g, 0, none⟩) n cap) n (ps.flatMap epCells)) (k : Nat) (p : GEdit × Value) (hk : k < ps.length) :
    ((((((w.setCell ⟨g, k * 6, none⟩ (.int .i64 p.1.kind)).setCell ⟨g, k * 6 + 1, none⟩ (.int .i64 p.1.i)).setCell ⟨g, k * 6 + 2, none⟩ (.int .i64 p.1.j)).setCell ⟨g, k * 6 + 3, none⟩ (.int .i64 p.1.k)).setCell ⟨g, k * 6 + 4, none⟩ p.2).setCell ⟨g, k * 6 + 5, none⟩ (.string p.1.map)).ownsRow base 36 6 (.slice (some ⟨g, 0, none⟩) n cap) n ((ps.set k p).flatMap epCells) ∧
    w.grownBy ((((((w.setCell ⟨g, k * 6, none⟩ (.int .i64 p.1.kind)).setCell ⟨g, k * 6 + 1, none⟩ (.int .i64 p.1.i)).setCell ⟨g, k * 6 + 2, none⟩ (.int .i64 p.1.j)).setCell ⟨g, k * 6 + 3, none⟩ (.int .i64 p.1.k)).setCell ⟨g, k * 6 + 4, none⟩ p.2).setCell ⟨g, k * 6 + 5, none⟩ (.string p.1.map)) (some g) := by
  obtain ⟨h1, g1⟩ := World.ownsRow.stored h (k * 6) (.int .i64 p.1.kind)
  obtain ⟨h2, g2⟩ := World.ownsRow.stored h1 (k * 6 + 1) (.int .i64 p.1.i)
  obtain ⟨h3, g3⟩ := World.ownsRow.stored h2 (k * 6 + 2) (.int .i64 p.1.j)
  obtain ⟨h4, g4⟩ := World.ownsRow.stored h3 (k * 6 + 3) (.int .i64 p.1.k)
  obtain ⟨h5, g5⟩ := World.ownsRow.stored h4 (k * 6 + 4) p.2
  obtain ⟨h6, g6⟩ := World.ownsRow.stored h5 (k * 6 + 5) (.string p.1.map)
  rw [set6 ps k p hk] at h6
  exact ⟨h6, grown_trans (grown_trans (grown_trans (grown_trans (grown_trans g1 g2) g3) g4) g5) g6⟩
theorem fill_at (ps : List (GEdit × Value)) (m : Nat) (z p : GEdit × Value) : (ps ++ List.replicate (m + 1) z).set ps.length p = (ps ++ [p]) ++ List.replicate m z := by
  rw [List.set_append, if_neg (by omega), Nat.sub_self, List.replicate_succ, List.set_cons_zero, List.append_assoc]; rfl
set_option maxRecDepth 100000 in
set_option maxHeartbeats 2000000 in
theorem toEditS_any (v : Value) (es : List GEdit) (w : World) (h : Sl EditE w w.heap.size v es) (hn : es.length ≤ 1048576) (hl : ∀ e ∈ es, e.part.length ≤ 1048576) :
    Calls Tryz.prog 22 #[v] w fun r w' => ∃ v', r = .returned v' ∧ OEds w' w.heap.size w'.heap.size v' es ∧ Below w.heap.size w w' := by
  obtain ⟨A, c, rfl, hc, hm, hrow⟩ := h
  clear hm
  obtain ⟨i0, hi0, hz0, hz1, hz2⟩ := info_parts Tryz.infoEd
  go_enter Tryz.func22, Tryz.ntmps22
  go_wp2_with (at_make; go_must (refine wpList_make_full _ rfl _ _ 47 rfl w.heap.size 36 i0 _ 6 Tryz.underlying47 hi0 hz0 hz1 _ _ _ _ es.length rfl rfl rfl rfl (by rw [hz2]; omega) (by unfold maxLen; omega) (Nat.le_refl _) ?_); intro w1 hown1 hg1; rw [madeEdits] at hown1)
  have hb1 : Below w.heap.size w w1 := (Below.refl _ _).grown hg1 (Nat.le_refl _) (by simp)
  have hlt1 : w.heap.size < w1.heap.size := (World.ownsRow.lt hown1 w.heap.size rfl).2
  have Hown := Lib.hid hown1
  clear hown1 hg1 hi0 hz0 hz1 hz2
  go_loopw [4] (fun i wr => ∃ (k : Nat) (ps : List (GEdit × Value)) (r : Nat → Nat), k ≤ es.length ∧ i = .int .i64 k ∧ Below w.heap.size w wr ∧ w.heap.size < wr.heap.size ∧ Hid (ps.map Prod.fst = es.take k) ∧
    Hid (wr.ownsRow w.heap.size 36 6 (.slice (some ⟨w.heap.size, 0, none⟩) es.length es.length) es.length ((ps ++ List.replicate (es.length - k) ((zE, .slice none 0 0) : GEdit × Value)).flatMap epCells)) ∧ Hid (PartsR wr (.slice (some ⟨w.heap.size, 0, none⟩) es.length es.length) (w.heap.size + 1) wr.heap.size r ps)) (fun i _ => es.length - (intOf i).toNat)
  case atStart => exact ⟨0, [], _, Nat.zero_le _, rfl, hb1, hlt1, rfl, by have := Hown.out; simpa [Hid] using this, PartsR.nil hlt1⟩
  case round =>
    obtain ⟨k, ps, r, hk, rfl, hb, hw, Hps, Hrow, HPR⟩ := hrel
    by_cases hlt : k < es.length
    · obtain ⟨b, o, rfl, hbl, hcell⟩ := hrow.edit (fun _ h => h) hlt
      obtain ⟨e, he⟩ : ∃ e, es[k]? = some e := ⟨_, List.getElem?_eq_getElem hlt⟩
      obtain ⟨vR, hec, hR⟩ := hcell k e he
      have hec2 := hec.up hb
      have HR2 := Lib.hid (hR.up hb)
      have hle := hl e (List.mem_of_getElem? he)
      have He := Lib.hid he
      obtain ⟨c0, c1, c2, c3, c4, c5, cl⟩ := hec2
      have hi : (k : Int) < (es.length : Int) := by omega
      have HB := Lib.hid hb
      have hsz := hb.size
      clear hcell he hec hR hb
      go_wp2_with fail
      refine (toEditO_any _ e _ ⟨_, rfl, HR2.out⟩ hle).mono ?_
      rintro r5 w2 ⟨vN, rfl, own2, hb2⟩
      obtain ⟨AN, cN, rfl, _⟩ := own_nil own2
      have hrow2 := ownsRow_below Hrow.out hb2
      have hsz2 := hb2.size
      have hpl : ps.length = k := by
        have := congrArg List.length Hps.out
        simpa [Nat.min_eq_left hk] using this
      have hfl : (ps ++ List.replicate (es.length - k) ((zE, .slice none 0 0) : GEdit × Value)).length = es.length := by simp [hpl]; omega
      have hx : ∀ j, j < 6 → ∃ u, w2.cell? ⟨w.heap.size, k * 6 + j, none⟩ = some u := fun j hj =>
        ⟨_, (hrow2.cellAt (k * 6 + j) (by omega)).trans (List.getElem?_eq_getElem (by rw [hrow2.1]; omega))⟩
      obtain ⟨u0, hu0⟩ := hx 0 (by omega)
      obtain ⟨u1, hu1⟩ := hx 1 (by omega)
      obtain ⟨u2, hu2⟩ := hx 2 (by omega)
      obtain ⟨u3, hu3⟩ := hx 3 (by omega)
      obtain ⟨u4, hu4⟩ := hx 4 (by omega)
      obtain ⟨u5, hu5⟩ := hx 5 (by omega)
      have hf := fun j => hrow2.frozenAt (k * 6 + j)
      have hf0 := hf 0
      have hf1 := hf 1
      have hf2 := hf 2
      have hf3 := hf 3
      have hf4 := hf 4
      have hf5 := hf 5
      rw [Nat.add_zero] at hu0 hf0
      have hst := stored6 hrow2 k (e, .slice AN e.part.length cN) (by omega)
      have hset : (ps ++ List.replicate (es.length - k) ((zE, .slice none 0 0) : GEdit × Value)).set k (e, .slice AN e.part.length cN) = (ps ++ [(e, .slice AN e.part.length cN)]) ++ List.replicate (es.length - (k + 1)) (zE, .slice none 0 0) := by
        rw [show es.length - k = (es.length - (k + 1)) + 1 by omega, ← hpl]; exact fill_at _ _ _ _
      rw [hset] at hst
      have Hst := Lib.hid hst
      have HB3 := Lib.hid (HB.out.trans (hb2.mono hsz))
      have Hb2 := Lib.hid hb2
      have Hown2 := Lib.hid own2
      have Hpl := Lib.hid hpl
      clear hrow2 hst hset hfl hb2 own2 hx hf hpl c0 c1 c2 c3 c4 c5
      go_wp2
      go_roundw
      case rel =>
        have hg := Hst.out.2
        have hpk : PartsR _ (.slice (some ⟨w.heap.size, 0, none⟩) es.length es.length) (w.heap.size + 1) wr.heap.size r ps := HPR.out.keep (fun g a b _ => (hg.block g (by omega) (fun e => by simp at e; omega)).trans (Hb2.out.block g b)) (Nat.le_trans hsz2 hg.size)
        obtain ⟨r', hr'⟩ := hpk.snoc (q := (e, .slice AN e.part.length cN)) (hi' := w2.heap.size) ⟨.inr ⟨own_keep Hown2.out fun g hgg => hg.block g (World.ownsRow.lt Hown2.out g hgg).2 (fun e => by have := (World.ownsRow.lt Hown2.out g hgg).1; simp at e; omega), fun g hgg => (World.ownsRow.lt Hown2.out g hgg).2, hg.size⟩, fun g hgg => by simp [Value.ownBlock] at hgg; omega⟩ hsz2 (by omega)
        refine ⟨k + 1, ps ++ [(e, .slice AN e.part.length cN)], r', by omega, by go_num, ?_, ?_, ?_, Lib.hid Hst.out.1, Lib.hid (hr'.le (Nat.le_refl _) hg.size)⟩
        · exact ((((((HB3.out.setCell (Nat.le_refl _) _).setCell (Nat.le_refl _) _).setCell (Nat.le_refl _) _).setCell (Nat.le_refl _) _).setCell (Nat.le_refl _) _).setCell (Nat.le_refl _) _)
        · have := hg.size; omega
        · show List.map Prod.fst (ps ++ [(e, Value.slice AN e.part.length cN)]) = es.take (k + 1)
          rw [List.map_append, Hps.out, List.take_add_one, He.out]; rfl
      case measure => simp [intOf]; omega
    · have hkn : k = es.length := by omega
      subst hkn
      go_wp2
      go_ret
      have hrow := Hrow.out
      rw [Nat.sub_self, List.replicate_zero, List.append_nil] at hrow
      refine ⟨_, rfl, ⟨ps, r, ?_, hrow, fun g hg => by simp [Value.ownBlock] at hg; omega, Nat.le_refl _, HPR.out.le (by omega) (Nat.le_refl _)⟩, hb⟩
      have := Hps.out
      rwa [List.take_length] at this
end Go.Proofs.YtfapnipmgmpgaaaGreatDoor

namespace Go.Proofs.YtfapnipmgmpgaaaGreatDoor
open Go.RowKit

set_option maxRecDepth 100000 in
theorem markRuleS_nil (A : Option Addr) (c k : Nat) (w : World) :
    Calls Tryz.prog 46 #[.slice A 0 c, .int .i64 k] w fun r w' => r = .returned (.int .i64 k) ∧ w' = w := by
  go_enter Tryz.func46, Tryz.ntmps46
  go_wp2_with fail
  go_loopw [1, 5] (fun q i wr => q = .int .i64 k ∧ i = .int .i64 0 ∧ wr = w) (fun _ _ _ => 0)
  case atStart => exact ⟨rfl, rfl, rfl⟩
  case round =>
    obtain ⟨rfl, rfl, rfl⟩ := hrel
    go_wp2
    go_ret
    exact ⟨rfl, rfl⟩
theorem markPart (v : Value) (a b : Nat) (e : GEdit) (u : Value) (k : Nat) (q : Int) (w : World) (h : PartAt w v a b (e, u)) (hn : e.part.length ≤ 1099511627776) (hk : k ≤ 1099511627776) (hq : q = k) :
    Calls Tryz.prog 46 #[u, .int .i64 q] w fun r w' => r = .returned (.int .i64 ((k + 3 * e.part.length : Nat) : Int)) ∧ (∀ e' : GEdit, e'.part = marks k e.part.length → PartAt w' v a b (e', u)) ∧ Chg a b w w' := by
  subst hq
  obtain ⟨h1, h2⟩ := h
  rcases h1 with ⟨h3, A, c, h4, h5⟩ | h3
  · simp only at h3 h4
    subst h4
    refine (markRuleS_nil A c k w).mono ?_
    rintro r w' ⟨rfl, rfl⟩
    rw [h3]
    exact ⟨rfl, fun e' he => ⟨.inl ⟨he, A, c, rfl, h5⟩, h2⟩, Chg.refl _ _ _⟩
  · refine (markRuleS_any a u e.part k w h3.1 hn hk).mono ?_
    rintro r w' ⟨rfl, hm, hg⟩
    exact ⟨rfl, fun e' he => ⟨.inr (by rw [he]; exact h3.markedC hm (chg_of h3 hg)), h2⟩, chg_of h3 hg⟩
theorem heldPart (u : Value) (k m : Nat) (q : Int) (w : World) (h : Sl RuleE w w.heap.size u (marks k m)) (hn : m ≤ 1099511627776) (hk : k ≤ 1099511627776) (hq : q = k) :
    Calls Tryz.prog 47 #[u, .int .i64 q] w fun e w' => e = .returned (.int .i64 ((k + 3 * m : Nat) : Int)) ∧ Below w.heap.size w w' := by
  subst hq; exact heldRuleS_any u k m w h hn hk
theorem marks_set (k : Nat) (es : List GEdit) (n : Nat) (e : GEdit) (h : es[n]? = some e) : (markES k (es.take n) ++ es.drop n).set n (mkE (markEnd k (es.take n)) e) = markES k (es.take (n + 1)) ++ es.drop (n + 1) := by
  obtain ⟨hn, rfl⟩ := List.getElem?_eq_some_iff.1 h
  have hl : (markES k (es.take n)).length = n := by rw [markES_len, List.length_take]; omega
  rw [List.set_append, if_neg (by omega), hl, Nat.sub_self, List.drop_eq_getElem_cons hn, List.set_cons_zero, List.take_add_one, h, Option.toList_some, markES_snoc, List.append_assoc]; rfl
set_option maxRecDepth 100000 in
set_option maxHeartbeats 2000000 in
theorem markEditS_any (lo hi : Nat) (v : Value) (es : List GEdit) (k : Nat) (w : World) (h : OEds w lo hi v es) (hk : markEnd k es ≤ 1099511627776) (hn : es.length ≤ 1099511627776) :
    Calls Tryz.prog 25 #[v, .int .i64 k] w fun r w' => r = .returned (.int .i64 (markEnd k es : Nat)) ∧ OEds w' lo hi v (markES k es) ∧ Chg lo hi w w' := by
  have Hown := Lib.hid h
  obtain ⟨_, _, _, h2, _⟩ := h
  obtain ⟨A, cap, rfl, _⟩ := own_nil h2
  clear h2
  go_enter Tryz.func25, Tryz.ntmps25
  go_wp2_with fail
  go_loopw [1, 5] (fun q i wr => ∃ n : Nat, n ≤ es.length ∧ q = .int .i64 (markEnd k (es.take n) : Nat) ∧ i = .int .i64 n ∧ Hid (OEds wr lo hi (.slice A es.length cap) (markES k (es.take n) ++ es.drop n)) ∧ Chg lo hi w wr) (fun _ i _ => es.length - (intOf i).toNat)
  case atStart => exact ⟨0, Nat.zero_le _, rfl, rfl, by simpa [markES, Hid] using Hown.out, Chg.refl _ _ _⟩
  case round =>
    obtain ⟨n, hnl, rfl, rfl, HO, hcg⟩ := hrel
    by_cases hlt : n < es.length
    · obtain ⟨ps, r, hps, hrow, hhi, hsz, hP⟩ := HO.out
      obtain ⟨e, he⟩ : ∃ e, es[n]? = some e := ⟨_, List.getElem?_eq_getElem hlt⟩
      have hll : (markES k (es.take n) ++ es.drop n).length = es.length := by rw [List.length_append, markES_len, List.length_take, List.length_drop]; omega
      have hcur : (markES k (es.take n) ++ es.drop n)[n]? = some e := by
        have hl : (markES k (es.take n)).length = n := by rw [markES_len, List.length_take]; omega
        rw [List.getElem?_append_right (by omega), hl, Nat.sub_self, List.getElem?_drop, Nat.add_zero, he]
      obtain ⟨u, hu⟩ := ps_at (by rw [hps]; exact hcur)
      rw [hll] at hrow
      obtain ⟨g, cap', hv, hgb, hgl, _, _⟩ := own_form hrow (by omega)
      injection hv with hv1 hv2 hv3
      subst hv1 hv3
      obtain ⟨htk, hle⟩ := markEnd_take k es n e he
      have hset := marks_set k es n e he
      obtain ⟨m, hm⟩ : ∃ m, markEnd k (es.take n) = m := ⟨_, rfl⟩
      rw [hm] at htk hle hset ⊢
      have hpl : n < ps.length := (List.getElem?_eq_some_iff.1 hu).1
      have hmk : m + 4 + 3 * e.part.length + 1 ≤ 1099511627776 := by unfold mkK at hle; omega
      have hPn := hP.at_ n _ hu
      have hhb := hP.high (2 * n + 1)
      obtain ⟨a, ha⟩ : ∃ a, r (2 * n) = a := ⟨_, rfl⟩
      obtain ⟨b, hb⟩ : ∃ b, r (2 * n + 1) = b := ⟨_, rfl⟩
      rw [ha, hb] at hPn
      rw [hb] at hhb
      have hrg := hPn.2 g rfl
      have hx : ∀ j, j < 6 → ∃ x, wr.cell? ⟨g, n * 6 + j, none⟩ = some x := fun j hj =>
        ⟨_, (hrow.cellAt (n * 6 + j) (by omega)).trans (List.getElem?_eq_getElem (by rw [hrow.1]; omega))⟩
      obtain ⟨u0, hu0⟩ := hx 0 (by omega)
      obtain ⟨u1, hu1⟩ := hx 1 (by omega)
      obtain ⟨u2, hu2⟩ := hx 2 (by omega)
      obtain ⟨u3, hu3⟩ := hx 3 (by omega)
      have hu4 : wr.cell? ⟨g, n * 6 + 4, none⟩ = some u := by rw [hrow.cellAt (n * 6 + 4) (by omega), ep_at ps n _ hu 4 (by omega)]; rfl
      have hf := fun j => hrow.frozenAt (n * 6 + j)
      have hf0 := hf 0
      have hf1 := hf 1
      have hf2 := hf 2
      have hf3 := hf 3
      have hf4 := hf 4
      rw [Nat.add_zero] at hu0 hf0
      obtain ⟨h1, g1⟩ := World.ownsRow.stored hrow (n * 6) (.int .i64 m)
      obtain ⟨h2, g2⟩ := World.ownsRow.stored h1 (n * 6 + 1) (.int .i64 ((m : Int) + 1))
      obtain ⟨h3, g3⟩ := World.ownsRow.stored h2 (n * 6 + 2) (.int .i64 ((m : Int) + 1 + 1))
      obtain ⟨h4, g4⟩ := World.ownsRow.stored h3 (n * 6 + 3) (.int .i64 ((m : Int) + 1 + 1 + 1))
      have G4 := Lib.hid (grown_trans (grown_trans (grown_trans g1 g2) g3) g4)
      have R4 := Lib.hid h4
      have P4 := Lib.hid (hPn.row rfl (by omega) G4.out)
      have HP := Lib.hid hP
      have Hu := Lib.hid hu
      have He := Lib.hid he
      have Hps := Lib.hid hps
      have Hset := Lib.hid hset
      have Htk := Lib.hid htk
      have Hm := Lib.hid hm
      have Ha := Lib.hid ha
      have Hb := Lib.hid hb
      have Hhi := Lib.hid hhi
      have hi' : (n : Int) < (es.length : Int) := by omega
      clear h1 h2 h3 h4 g1 g2 g3 g4 hP hPn hu he hps hset htk hm ha hb hhi hcur hll hf hx hrow
      go_wp2_with fail
      refine (markPart _ a b e u (m + 4) _ _ P4.out (by omega) (by omega) (by omega)).mono ?_
      rintro r5 w2 ⟨rfl, hp2, hc2⟩
      have hl4 := (World.ownsRow.lt R4.out g rfl).2
      have R2 := own_keep R4.out (fun g' hg' => by
        have e9 : g = g' := by simpa [Value.ownBlock] using hg'
        subst e9
        exact hc2.block g hl4 hrg)
      have HC2 := Lib.hid hc2
      have HP2 := Lib.hid hp2
      have HR2 := Lib.hid R2
      clear hc2 hp2 R2 hu0 hu1 hu2 hu3 hu4 hf0 hf1 hf2 hf3 hf4
      go_wp2_with fail
      refine (markText_int (m + 4 + 3 * e.part.length) _ _ (by omega) (by omega)).mono ?_
      rintro r6 w3 ⟨rfl, hb3⟩
      have R3 := ownsRow_below HR2.out hb3
      obtain ⟨u5, hu5⟩ : ∃ x, w3.cell? ⟨g, n * 6 + 5, none⟩ = some x := ⟨_, (R3.cellAt (n * 6 + 5) (by omega)).trans (List.getElem?_eq_getElem (by rw [R3.1]; omega))⟩
      have hf5 := R3.frozenAt (n * 6 + 5)
      obtain ⟨h6, g6⟩ := World.ownsRow.stored R3 (n * 6 + 5) (.string (mtext (m + 4 + 3 * e.part.length)))
      have hs := set5 ps n (mkE m e, u) (e, u) Hu.out rfl
      simp only [mkE] at hs
      rw [show ((m + 1 : Nat) : Int) = (m : Int) + 1 by omega, show ((m + 2 : Nat) : Int) = (m : Int) + 1 + 1 by omega, show ((m + 3 : Nat) : Int) = (m : Int) + 1 + 1 + 1 by omega] at hs
      rw [hs] at h6
      have H6 := Lib.hid h6
      have G6 := Lib.hid g6
      have HB3 := Lib.hid hb3
      clear h6 g6 hs R3 hb3
      go_wp2_with fail
      go_roundw
      case rel =>
        have hE : (⟨(m : Int), (m : Int) + 1, (m : Int) + 1 + 1, (m : Int) + 1 + 1 + 1, marks (m + 4) e.part.length, mtext (m + 4 + 3 * e.part.length)⟩ : GEdit) = mkE m e := by
          unfold mkE
          rw [show ((m + 1 : Nat) : Int) = (m : Int) + 1 by omega, show ((m + 2 : Nat) : Int) = (m : Int) + 1 + 1 by omega, show ((m + 3 : Nat) : Int) = (m : Int) + 1 + 1 + 1 by omega]
        have s4 := G4.out.size
        have s2 := HC2.out.size
        have s3 := HB3.out.size
        have s6 := G6.out.size
        have hblk : ∀ x, x < wr.heap.size → x ≠ g → x < a ∨ b ≤ x → (w3.setCell ⟨g, n * 6 + 5, none⟩ (.string (mtext (m + 4 + 3 * e.part.length)))).heap[x]? = wr.heap[x]? := fun x hx hne hr =>
          (G6.out.block x (by omega) (fun e => hne (by simpa using e))).trans ((HB3.out.block x (by omega)).trans ((HC2.out.block x (by omega) hr).trans (G4.out.block x hx (fun e => hne (by simpa using e)))))
        have hPq : PartAt (w3.setCell ⟨g, n * 6 + 5, none⟩ (.string (mtext (m + 4 + 3 * e.part.length)))) (.slice (some ⟨g, 0, none⟩) es.length cap) a b (mkE m e, u) :=
          ((HP2.out (mkE m e) rfl).keep (fun x h1 h2 => HB3.out.block x (by omega)) s3).keep (fun x h1 h2 => G6.out.block x (by omega) (fun e => by simp at e; omega)) s6
        refine ⟨n + 1, by omega, ?_, by go_num, Lib.hid ⟨ps.set n (mkE m e, u), r, ?_, ?_, Hhi.out, by omega, ?_⟩, ?_⟩
        · rw [Htk.out]; unfold mkK; congr 1
        · rw [List.map_set, Hps.out, Hset.out]
        · have hl2 : (markES k (es.take (n + 1)) ++ es.drop (n + 1)).length = es.length := by rw [List.length_append, markES_len, List.length_take, List.length_drop]; omega
          rw [hl2, ← hE]; exact H6.out
        · refine HP.out.mark n _ (by rw [Ha.out, Hb.out]; exact hPq) (fun x hx hne hr => hblk x hx (fun e => hne (by rw [e]; rfl)) (by rw [Ha.out, Hb.out] at hr; exact hr)) (by omega)
        · refine hcg.trans ⟨?_, ?_, ?_, by omega, fun x hx hr => hblk x hx (by have := Hhi.out g rfl; omega) (by have := HP.out.mono 0 (2 * n) (Nat.zero_le _); have := HP.out.low; have := Ha.out; omega)⟩
          · exact G6.out.os.trans (HB3.out.os.trans (HC2.out.os.trans G4.out.os))
          · exact G6.out.tape.trans (HB3.out.tape.trans (HC2.out.tape.trans G4.out.tape))
          · exact G6.out.output.trans (HB3.out.output.trans (HC2.out.output.trans G4.out.output))
      case measure => simp [intOf]; omega
    · have hkn : n = es.length := by omega
      subst hkn
      go_wp2
      go_ret
      exact ⟨by simp, by have := HO.out; rwa [List.take_length, List.drop_length, List.append_nil] at this, hcg⟩
end Go.Proofs.YtfapnipmgmpgaaaGreatDoor

namespace Go.Proofs.YtfapnipmgmpgaaaGreatDoor
open Go.RowKit

set_option maxRecDepth 100000 in
set_option maxHeartbeats 2000000 in
theorem heldEditS_any (v : Value) (es : List GEdit) (k : Nat) (w : World) (h : Sl EditE w w.heap.size v (markES k es)) (hk : markEnd k es ≤ 1099511627776) (hn : es.length ≤ 1099511627776) :
    Calls Tryz.prog 28 #[v, .int .i64 k] w fun r w' => r = .returned (.int .i64 (markEnd k es : Nat)) ∧ Below w.heap.size w w' := by
  obtain ⟨A, c, rfl, hc, hm, hrow⟩ := h
  rw [markES_len] at hc
  rw [markES_len]
  clear hm
  go_enter Tryz.func28, Tryz.ntmps28
  go_wp2_with fail
  go_loopw [1, 5] (fun q i wr => ∃ n : Nat, n ≤ es.length ∧ q = .int .i64 (markEnd k (es.take n) : Nat) ∧ i = .int .i64 n ∧ Below w.heap.size w wr) (fun _ i _ => es.length - (intOf i).toNat)
  case atStart => exact ⟨0, Nat.zero_le _, rfl, rfl, Below.refl _ _⟩
  case round =>
    obtain ⟨n, hnl, rfl, rfl, hb⟩ := hrel
    by_cases hlt : n < es.length
    · obtain ⟨b, o, rfl, hbl, hcell⟩ := hrow.edit (fun _ h => h) (k := n) (by rw [markES_len]; exact hlt)
      obtain ⟨e, he⟩ : ∃ e, es[n]? = some e := ⟨_, List.getElem?_eq_getElem hlt⟩
      obtain ⟨vR, hec, hR⟩ := hcell n _ (markES_at k es n e he)
      obtain ⟨htk, hle⟩ := markEnd_take k es n e he
      obtain ⟨m, hm⟩ : ∃ m, markEnd k (es.take n) = m := ⟨_, rfl⟩
      rw [hm] at htk hle hec hR ⊢
      have hmk : m + 4 + 3 * e.part.length + 1 ≤ 1099511627776 := by unfold mkK at hle; omega
      obtain ⟨c0, c1, c2, c3, c4, c5, cl⟩ := hec.up hb
      simp only [mkE] at c0 c1 c2 c3 c5
      rw [show ((m + 1 : Nat) : Int) = (m : Int) + 1 by omega] at c1
      rw [show ((m + 2 : Nat) : Int) = (m : Int) + 1 + 1 by omega] at c2
      rw [show ((m + 3 : Nat) : Int) = (m : Int) + 1 + 1 + 1 by omega] at c3
      have HR := Lib.hid (hR.up hb)
      have Htk := Lib.hid htk
      have HB := Lib.hid hb
      have hsz := hb.size
      have hi' : (n : Int) < (es.length : Int) := by omega
      clear hcell he hec hR htk hm hb hle
      go_wp2_with fail
      refine (heldPart vR (m + 4) e.part.length _ _ HR.out (by omega) (by omega) (by omega)).mono ?_
      rintro r5 w2 ⟨rfl, hb2⟩
      have d5 := (hb2.cell (p := ⟨b, o + n * 6 + 5, none⟩) cl).trans c5
      have dl : b < w2.heap.size := Nat.lt_of_lt_of_le cl hb2.size
      have HB2 := Lib.hid (HB.out.trans (hb2.mono hsz))
      have hsz2 := HB2.out.size
      have e0 : (decide (((m + 4 + 3 * e.part.length : Nat) : Int) < 0)) = false := by simp; omega
      clear c0 c1 c2 c3 c4 c5 hb2
      go_wp2_with fail
      go_region_held3 (fun w' => Below w2.heap.size w2 w' ∧ w'.cell? ⟨b, o + n * 6 + 5, none⟩ = some (.string (mtext (m + 4 + 3 * e.part.length)))) (first | exact ⟨(Below.refl _ _).drew, d5⟩ | (exact keepB (by assumption) hb3 dl))
        (first | (go_at_call 53; refine (markText_int (m + 4 + 3 * e.part.length) _ _ (by omega) (by omega)).mono ?_; rintro r6 w3 ⟨rfl, hb3⟩))
      have HB3 := Lib.hid (HB2.out.trans (((Below.refl _ _).drew.trans hb3).mono hsz2))
      clear hb3 d5
      go_wp2
      go_roundw
      case rel => exact ⟨n + 1, by omega, by rw [Htk.out]; unfold mkK; congr 1, by go_num, HB3.out⟩
      case measure => simp [intOf]; omega
    · have hkn : n = es.length := by omega
      subst hkn
      go_wp2
      go_ret
      exact ⟨by simp, hb⟩
end Go.Proofs.YtfapnipmgmpgaaaGreatDoor

namespace Go.Proofs.YtfapnipmgmpgaaaGreatDoor
open Go.RowKit

set_option maxRecDepth 100000 in
set_option maxHeartbeats 1000000 in
theorem IndexEds_any (v : Value) (xs : List GEdit) (F : FuncId) (cap : Array Value) (p : GEdit → Bool) (w : World) (h : Sl EditE w w.heap.size v xs)
    (eg : ∀ args w, (callFunc F args).run Tryz.prog w = .ok (.enter F args) w) (hf : ∀ (W : World) x vR, Below w.heap.size w W → x ∈ xs → Sl RuleE W W.heap.size vR x.part → Calls Tryz.prog F (#[.agg #[.int .i64 x.kind, .int .i64 x.i, .int .i64 x.j, .int .i64 x.k, vR, .string x.map]] ++ cap) W fun e w' => e = .returned (.bool (p x)) ∧ Below W.heap.size W w') :
    Calls Tryz.prog 131 #[v, .func (.func F) #[] cap] w fun e w' => e = .returned (.int .i64 (idxOf p xs)) ∧ Below w.heap.size w w' := by
  obtain ⟨A, c, rfl, hc, hm, hrow⟩ := h
  unfold maxLen at hm
  have Hf := Lib.hid hf
  clear hf
  go_enter Tryz.func131, Tryz.ntmps131
  go_wp2_with fail
  go_loopw [8] (fun i wr => ∃ k : Nat, k ≤ xs.length ∧ i = .int .i64 k ∧ Below w.heap.size w wr ∧ ∀ (j : Nat) y, j < k → xs[j]? = some y → p y = false) (fun i _ => xs.length - (intOf i).toNat)
  case atStart => exact ⟨0, Nat.zero_le _, rfl, Below.refl _ _, fun j y hj => absurd hj (by omega)⟩
  case round =>
    obtain ⟨k, hk, rfl, hb, hno⟩ := hrel
    have Hno := Lib.hid hno
    clear hno
    by_cases hlt : k < xs.length
    · obtain ⟨b, o, rfl, hbl, hcell⟩ := hrow.edit (fun _ h => h) hlt
      obtain ⟨x, hx⟩ : ∃ x, xs[k]? = some x := ⟨_, List.getElem?_eq_getElem hlt⟩
      obtain ⟨vR, hec, hR⟩ := hcell k x hx
      have hec2 := hec.up hb
      have HR2 := Lib.hid (hR.up hb)
      obtain ⟨c0, c1, c2, c3, c4, c5, cl⟩ := hec2
      have hi : (k : Int) < (xs.length : Int) := by omega
      have Hx := Lib.hid hx
      clear hcell hx hec hR
      go_wp2_with fail
      refine (Hf.out _ x _ hb (List.mem_of_getElem? Hx.out) HR2.out).mono ?_
      rintro e w2 ⟨rfl, hb2⟩
      by_cases hp : p x = true
      · have Hp := Lib.hid hp
        go_wp2
        go_ret
        exact ⟨ret_int (by rw [idxOf_some Hno.out Hx.out Hp.out]), hb.trans (hb2.mono hb.size)⟩
      · have hp2 : p x = false := by simpa using hp
        have Hp := Lib.hid hp2
        clear hp
        go_wp2
        go_roundw
        case rel =>
          refine ⟨k + 1, by omega, by go_num, hb.trans (hb2.mono hb.size), fun j y hj hy => ?_⟩
          by_cases e : j = k
          · subst e
            have := Hx.out
            rw [hy] at this
            injection this with this
            rw [this]; exact Hp.out
          · exact Hno.out j y (by omega) hy
        case measure => simp [intOf]; omega
    · go_wp2
      go_ret
      exact ⟨ret_int (by
        rw [idxOf_none]
        intro x hx
        obtain ⟨j, hj, rfl⟩ := List.getElem_of_mem hx
        exact Hno.out j _ (by omega) (List.getElem?_eq_getElem hj)), hb⟩
theorem ContainsEds_any (v : Value) (xs : List GEdit) (F : FuncId) (cap : Array Value) (p : GEdit → Bool) (w : World) (h : Sl EditE w w.heap.size v xs)
    (eg : ∀ args w, (callFunc F args).run Tryz.prog w = .ok (.enter F args) w) (hf : ∀ (W : World) x vR, Below w.heap.size w W → x ∈ xs → Sl RuleE W W.heap.size vR x.part → Calls Tryz.prog F (#[.agg #[.int .i64 x.kind, .int .i64 x.i, .int .i64 x.j, .int .i64 x.k, vR, .string x.map]] ++ cap) W fun e w' => e = .returned (.bool (p x)) ∧ Below W.heap.size W w') :
    Calls Tryz.prog 100 #[v, .func (.func F) #[] cap] w fun e w' => e = .returned (.bool (xs.any p)) ∧ Below w.heap.size w w' := by
  have H := Lib.hid (IndexEds_any v xs F cap p w h eg hf)
  clear hf eg
  obtain ⟨A, c, rfl, _⟩ := h
  go_enter Tryz.func100, Tryz.ntmps100
  go_wp2_with fail
  refine H.out.mono ?_
  rintro e w2 ⟨rfl, hb2⟩
  go_wp2
  go_ret
  exact ⟨ret_bool (idxOf_any p xs), hb2⟩
set_option maxRecDepth 100000 in
theorem badEdit_any (e : GEdit) (vR : Value) (w : World) (hR : Sl RuleE w w.heap.size vR e.part) (hn : e.part.length ≤ 1048576) (hm : e.map.size ≤ maxLen) : Calls Tryz.prog 101 #[.agg #[.int .i64 e.kind, .int .i64 e.i, .int .i64 e.j, .int .i64 e.k, vR, .string e.map]] w fun r w' => r = .returned (.bool (!editOk e)) ∧ Below w.heap.size w w' := by
  have HR := Lib.hid hR
  obtain ⟨AR, cR, rfl, _⟩ := hR
  go_enter Tryz.func101, Tryz.ntmps101
  go_wp2_with fail
  refine (implValidEdit_any _ e _ ⟨_, rfl, HR.out.up (by repeat (first | exact Below.refl _ _ | (refine Below.alloc ?_ (by first | omega | (simp; done) | (simp; omega)) _) | (refine Below.setCell ?_ (by first | exact Nat.le_refl _ | (show _ ≤ _; omega) | (simp; done) | (simp; omega)) _) | refine below_drewN ?_ _ | refine Below.drew ?_))⟩ (by omega) hm).mono ?_
  rintro r w1 ⟨rfl, hb1⟩
  go_wp2
  go_ret
  exact ⟨rfl, (Below.unalloc hb1).1⟩
theorem not_any_bad (l : List GEdit) : (!l.any fun e => !editOk e) = l.all editOk := by
  induction l with
  | nil => rfl
  | cons x xs ih => simp only [List.any_cons, List.all_cons, Bool.not_or, Bool.not_not, ih]
set_option maxRecDepth 100000 in
theorem areEdits_any (v : Value) (es : List GEdit) (w : World) (h : Sl EditE w w.heap.size v es) (hs : ∀ e ∈ es, e.part.length ≤ 1048576 ∧ e.map.size ≤ maxLen) :
    Calls Tryz.prog 51 #[v] w fun r w' => r = .returned (.bool (es.all editOk)) ∧ Below w.heap.size w w' := by
  have H := Lib.hid (ContainsEds_any v es 101 #[] (fun e => !editOk e) w h (enters_of Tryz.func101 (by kernel_rfl) rfl) (fun W x vR _ hx hR => badEdit_any x vR W hR (hs x hx).1 (hs x hx).2))
  obtain ⟨A, c, rfl, _⟩ := h
  go_enter Tryz.func51, Tryz.ntmps51
  go_wp2_with fail
  refine H.out.mono ?_
  rintro r w1 ⟨rfl, hb1⟩
  go_wp2
  go_ret
  refine ⟨ret_bool ?_, hb1⟩
  exact not_any_bad es
set_option maxRecDepth 100000 in
set_option maxHeartbeats 1000000 in
theorem l07All_any (v : Value) (es : List GEdit) (w : World) (h : Sl EditE w w.heap.size v es) (hs : ∀ e ∈ es, SmallL e.part ∧ e.part.length ≤ 1048576 ∧ e.map.size ≤ maxLen) :
    Calls Tryz.prog 48 #[v] w fun r w' => r = .returned (.bool (es.all editOk)) ∧ Below w.heap.size w w' := by
  obtain ⟨A, c, rfl, hc, hm, hrow⟩ := h
  unfold maxLen at hm
  go_enter Tryz.func48, Tryz.ntmps48
  go_wp2_with fail
  go_loopw [3] (fun i wr => ∃ k : Nat, k ≤ es.length ∧ i = .int .i64 k ∧ Below w.heap.size w wr ∧ Hid (∀ (j : Nat) y, j < k → es[j]? = some y → editOk y = true)) (fun i _ => es.length - (intOf i).toNat)
  case atStart => exact ⟨0, Nat.zero_le _, rfl, Below.refl _ _, fun j y hj => absurd hj (by omega)⟩
  case round =>
    obtain ⟨k, hk, rfl, hb, Hno⟩ := hrel
    by_cases hlt : k < es.length
    · obtain ⟨b, o, rfl, hbl, hcell⟩ := hrow.edit (fun _ h => h) hlt
      obtain ⟨x, hx⟩ : ∃ x, es[k]? = some x := ⟨_, List.getElem?_eq_getElem hlt⟩
      obtain ⟨vR, hec, hR⟩ := hcell k x hx
      have HA := Lib.hid (show EditAtO wr wr.heap.size b (o + k * 6) x vR from ⟨hec.up hb, (hec.up hb).lt, hR.up hb⟩)
      have hi : (k : Int) < (es.length : Int) := by omega
      have Hx := Lib.hid hx
      obtain ⟨s1, s2, s3⟩ := hs x (List.mem_of_getElem? hx)
      clear hcell hx hec hR
      go_wp2_with fail
      refine (l07OkO_any b (o + k * 6) _ x _ HA.out s1 (by omega) s3).mono ?_
      rintro r w2 ⟨rfl, hb2⟩
      have HB2 := Lib.hid (hb.trans (hb2.mono hb.size))
      cases hp : editOk x with
      | false =>
        have Hp := Lib.hid hp
        clear hp
        go_wp2_with fail
        go_ret
        refine ⟨ret_bool ?_, HB2.out⟩
        have : ¬ es.all editOk = true := fun h => by
          have := List.all_eq_true.1 h x (List.mem_of_getElem? Hx.out)
          rw [Hp.out] at this; cases this
        simpa using this
      | true =>
        have Hp := Lib.hid hp
        clear hp
        go_wp2_with fail
        go_roundw
        case rel =>
          refine ⟨k + 1, by omega, by go_num, HB2.out, Lib.hid fun j y hj hy => ?_⟩
          by_cases e : j = k
          · subst e
            have := Hx.out
            rw [hy] at this
            injection this with this
            rw [this]; exact Hp.out
          · exact Hno.out j y (by omega) hy
        case measure => simp [intOf]; omega
    · go_wp2
      go_ret
      refine ⟨ret_bool ?_, hb⟩
      symm
      rw [List.all_eq_true]
      intro x hx
      obtain ⟨j, hj, rfl⟩ := List.getElem_of_mem hx
      exact Hno.out j _ (by omega) (List.getElem?_eq_getElem hj)
end Go.Proofs.YtfapnipmgmpgaaaGreatDoor

namespace Go.Proofs.YtfapnipmgmpgaaaGreatDoor
open Go.RowKit

/-- One edit of a list: done, or left out. -/
def stepE (p : List GRule × Int) (e : GEdit) : List GRule × Int := if applyCode p.1 e = 0 then (applyOut p.1 e, p.2 + 1) else p
def foldE (xs : List GRule) (es : List GEdit) : List GRule × Int := es.foldl stepE (xs, 0)
def aesCode (xs : List GRule) (es : List GEdit) : Int := if gramOk xs && es.all editOk then (if 60 < es.length then 2 else 0) else 1
def aesOut (xs : List GRule) (es : List GEdit) : List GRule := if aesCode xs es = 0 then (foldE xs es).1 else []
def aesN (xs : List GRule) (es : List GEdit) : Int := if aesCode xs es = 0 then (foldE xs es).2 else 0
theorem stepE_ok {p : List GRule × Int} {e : GEdit} (h : gramOk p.1 = true) : gramOk (stepE p e).1 = true := by
  unfold stepE
  split
  · exact applyOut_ok _ _
  · exact h
theorem foldE_take {xs : List GRule} {es : List GEdit} {k : Nat} {e : GEdit} (h : es[k]? = some e) : foldE xs (es.take (k + 1)) = stepE (foldE xs (es.take k)) e := by
  unfold foldE
  rw [List.take_add_one, h]; simp
theorem foldE_ok {xs : List GRule} (es : List GEdit) (h : gramOk xs = true) : gramOk (foldE xs es).1 = true := by
  unfold foldE
  suffices H : ∀ (l : List GEdit) (p : List GRule × Int), gramOk p.1 = true → gramOk (l.foldl stepE p).1 = true from H es _ h
  intro l
  induction l with
  | nil => intro p h; exact h
  | cons x xs ih => intro p h; exact ih _ (stepE_ok h)
theorem foldE_num (xs : List GRule) (es : List GEdit) : 0 ≤ (foldE xs es).2 ∧ (foldE xs es).2 ≤ es.length := by
  unfold foldE
  suffices H : ∀ (l : List GEdit) (p : List GRule × Int), p.2 ≤ (l.foldl stepE p).2 ∧ (l.foldl stepE p).2 ≤ p.2 + l.length by simpa using H es (xs, 0)
  intro l
  induction l with
  | nil => intro p; simp
  | cons x xs ih =>
    intro p
    have h1 := ih (stepE p x)
    have h2 : p.2 ≤ (stepE p x).2 ∧ (stepE p x).2 ≤ p.2 + 1 := by unfold stepE; split <;> simp <;> omega
    rw [List.foldl_cons, List.length_cons]
    omega
def ARes (out : List GRule) (n c : Int) (w : World) (r : Ending) (w' : World) : Prop :=
  Below w.heap.size w w' ∧ ∃ v, OwnRules w' w.heap.size v out ∧ r = .returned (.tuple #[.agg #[v], .int .i64 n, .int .i64 c])
set_option maxRecDepth 100000 in
set_option maxHeartbeats 4000000 in
theorem specApplyEdits_any (vG vE : Value) (xs : List GRule) (es : List GEdit) (w : World) (hG : Sl RuleE w w.heap.size vG xs) (hE : Sl EditE w w.heap.size vE es) (hsm : SmallL xs) (hs : ∀ e ∈ es, SmallL e.part ∧ e.part.length ≤ 1048576 ∧ e.map.size ≤ maxLen) :
    Calls Tryz.prog 21 #[.agg #[vG], vE] w (ARes (aesOut xs es) (aesN xs es) (aesCode xs es) w) := by
  have HG := Lib.hid hG
  have HE := Lib.hid hE
  have HS := Lib.hid hs
  obtain ⟨AG, cG, rfl, _⟩ := hG
  obtain ⟨AE, cE, rfl, hcE, hmE, _⟩ := hE
  unfold maxLen at hmE
  clear hs
  have b1 := (Below.refl w.heap.size w).alloc (Nat.le_refl _) (Obj.cells #[.slice AG xs.length cG] 31)
  have b2 := b1.alloc b1.size (Obj.cells #[.slice none 0 0] 31)
  have KP : Blk ((w.alloc (Obj.cells #[.slice AG xs.length cG] 31)).alloc (Obj.cells #[.slice none 0 0] 31)) w.heap.size #[.slice AG xs.length cG] 31 := (Blk.new w _ _).alloc _
  have KR : Blk ((w.alloc (Obj.cells #[.slice AG xs.length cG] 31)).alloc (Obj.cells #[.slice none 0 0] 31)) (w.heap.size + 1) #[.slice none 0 0] 31 := by
    have := (Blk.new (w.alloc (Obj.cells #[.slice AG xs.length cG] 31)) #[.slice none 0 0] 31)
    simpa [Blk] using this
  go_enter Tryz.func21, Tryz.ntmps21
  go_upto_region 1 with fail
  generalize ((w.alloc (Obj.cells #[.slice AG xs.length cG] 31)).alloc (Obj.cells #[.slice none 0 0] 31)) = w0 at *
  have KB := Lib.hid b2
  clear b1 b2
  have cP0_1 := Blk.cell (i := 0) (v := .slice AG xs.length cG) KP rfl
  have lP_2 := Blk.lt KP
  go_wp2_with fail
  refine (l02Ok_any w.heap.size 0 _ xs _ cP0_1 (Blk.lt KP) (HG.out.up KB.out) hsm).mono ?_
  rintro e w1 ⟨rfl, hb_3⟩
  have z_w1 : w0.heap.size ≤ w1.heap.size := hb_3.size
  have KB_4 := Lib.hid (Below.tr KB.out hb_3)
  have KP_5 := Blk.up KP hb_3
  have KR_6 := Blk.up KR hb_3
  clear cP0_1 lP_2 KB KP KR
  cases hg : gramOk xs with
  | false =>
    have hc : aesCode xs es = 1 := by simp [aesCode, hg]
    have HQ := Lib.hid (show aesOut xs es = [] ∧ aesN xs es = 0 ∧ aesCode xs es = 1 by unfold aesOut aesN; rw [hc]; exact ⟨rfl, rfl, rfl⟩)
    clear hg hc
    have cR0_7 := Blk.cell (i := 0) (v := .slice none 0 0) KR_6 rfl
    have zR0_8 := Blk.frozen KR_6 0
    have lR_9 := Blk.lt KR_6
    go_wp2_with fail
    refine bodyPost_ret (v := .tuple #[.agg #[.slice none 0 0], .int .i64 0, .int .i64 1]) (by simp [results, Tryz.results21, go_sem, cR0_7]) rfl ⟨Below.setCell KB_4.out (show w.heap.size ≤ w.heap.size + 1 by omega) _, .slice none 0 0, by rw [HQ.out.1]; exact World.ownsRow_nil _ _ _ _, by rw [HQ.out.2.1, HQ.out.2.2]⟩
  | true =>
    have HGG := Lib.hid hg
    clear hg
    have cR0_10 := Blk.cell (i := 0) (v := .slice none 0 0) KR_6 rfl
    have lR_11 := Blk.lt KR_6
    go_wp2_with fail
    refine (l07All_any _ es _ (HE.out.up KB_4.out) HS.out).mono ?_
    rintro e w2 ⟨rfl, hb_12⟩
    have z_w2 : w1.heap.size ≤ w2.heap.size := hb_12.size
    have KB_13 := Lib.hid (Below.tr KB_4.out hb_12)
    have KP_14 := Blk.up KP_5 hb_12
    have KR_15 := Blk.up KR_6 hb_12
    clear hb_3 cR0_10 lR_11 KB_4 KP_5 KR_6
    cases ha : es.all editOk with
    | false =>
      have hc : aesCode xs es = 1 := by simp [aesCode, ha]
      have HQ := Lib.hid (show aesOut xs es = [] ∧ aesN xs es = 0 ∧ aesCode xs es = 1 by unfold aesOut aesN; rw [hc]; exact ⟨rfl, rfl, rfl⟩)
      clear ha hc
      have cR0_16 := Blk.cell (i := 0) (v := .slice none 0 0) KR_15 rfl
      have zR0_17 := Blk.frozen KR_15 0
      have lR_18 := Blk.lt KR_15
      go_wp2_with fail
      refine bodyPost_ret (v := .tuple #[.agg #[.slice none 0 0], .int .i64 0, .int .i64 1]) (by simp [results, Tryz.results21, go_sem, cR0_16]) rfl ⟨Below.setCell KB_13.out (show w.heap.size ≤ w.heap.size + 1 by omega) _, .slice none 0 0, by rw [HQ.out.1]; exact World.ownsRow_nil _ _ _ _, by rw [HQ.out.2.1, HQ.out.2.2]⟩
    | true =>
      have HAA := Lib.hid ha
      clear ha
      by_cases hl : 60 < es.length
      · have hc : aesCode xs es = 2 := by unfold aesCode; rw [HGG.out, HAA.out, if_pos (by rfl), if_pos hl]
        have HQ := Lib.hid (show aesOut xs es = [] ∧ aesN xs es = 0 ∧ aesCode xs es = 2 by unfold aesOut aesN; rw [hc]; exact ⟨rfl, rfl, rfl⟩)
        have hli : (60 : Int) < (es.length : Int) := by omega
        clear hc
        have cR0_19 := Blk.cell (i := 0) (v := .slice none 0 0) KR_15 rfl
        have zR0_20 := Blk.frozen KR_15 0
        have lR_21 := Blk.lt KR_15
        go_wp2_with fail
        refine bodyPost_ret (v := .tuple #[.agg #[.slice none 0 0], .int .i64 0, .int .i64 2]) (by simp [results, Tryz.results21, go_sem, cR0_19]) rfl ⟨Below.setCell KB_13.out (show w.heap.size ≤ w.heap.size + 1 by omega) _, .slice none 0 0, by rw [HQ.out.1]; exact World.ownsRow_nil _ _ _ _, by rw [HQ.out.2.1, HQ.out.2.2]⟩
      · have hc : aesCode xs es = 0 := by unfold aesCode; rw [HGG.out, HAA.out, if_pos (by rfl), if_neg hl]
        have HQ := Lib.hid (show aesOut xs es = (foldE xs es).1 ∧ aesN xs es = (foldE xs es).2 ∧ aesCode xs es = 0 by unfold aesOut aesN; rw [hc]; exact ⟨rfl, rfl, rfl⟩)
        have hli : ¬ (60 : Int) < (es.length : Int) := by omega
        have hx4 := gram_len400 HGG.out
        clear hc
        have hs2 : w.heap.size + 2 ≤ w2.heap.size := Blk.lt KR_15
        have cR0_22 := Blk.cell (i := 0) (v := .slice none 0 0) KR_15 rfl
        have lR_23 := Blk.lt KR_15
        have cP0_24 := Blk.cell (i := 0) (v := .slice AG xs.length cG) KP_14 rfl
        have lP_25 := Blk.lt KP_14
        go_wp2_with fail
        refine (l02Own_any w.heap.size 0 _ xs _ cP0_24 (Blk.lt KP_14) (HG.out.up KB_13.out) (by omega)).mono ?_
        rintro e w3 ⟨vN, rfl, ownN, hb_26⟩
        have z_w3 : w2.heap.size ≤ w3.heap.size := hb_26.size
        have KB_27 := Lib.hid (Below.tr KB_13.out hb_26)
        have KP_28 := Blk.up KP_14 hb_26
        have KR_29 := Blk.up KR_15 hb_26
        clear hb_12 cR0_22 lR_23 cP0_24 lP_25 KB_13 KP_14 KR_15
        obtain ⟨AN, cN, rfl, _⟩ := own_nil ownN
        have bZ := (Below.refl w3.heap.size w3).alloc (Nat.le_refl _) (Obj.cells #[.slice AN xs.length cN] 31)
        have KN := Blk.new w3 #[.slice AN xs.length cN] 31
        have KO := OwnRules.below ownN bZ
        have hsz := Below.size KB_27.out
        have lR := Blk.lt KR_29
        have lP := Blk.lt KP_28
        have KBZ := Lib.hid (Below.tr KB_27.out bZ)
        have KRZ := Lib.hid (Blk.up KR_29 bZ)
        have KOZ := Lib.hid KO
        have KNZ := Lib.hid KN
        clear ownN KO KN bZ
        go_wp2_with fail
        go_loopw [8, 9] (fun d i wx => ∃ (k : Nat) (A : Option Addr) (c : Nat), k ≤ es.length ∧ d = .int .i64 (foldE xs (es.take k)).2 ∧ i = .int .i64 k ∧ Hid (Blk wx w3.heap.size #[.slice A (foldE xs (es.take k)).1.length c] 31) ∧ Hid (Blk wx (w.heap.size + 1) #[.slice none 0 0] 31) ∧ Hid (OwnRules wx (w.heap.size + 2) (.slice A (foldE xs (es.take k)).1.length c) (foldE xs (es.take k)).1) ∧ Hid (Below w.heap.size w wx)) (fun _ i _ => es.length - (intOf i).toNat)
        case atStart => exact ⟨0, AN, cN, Nat.zero_le _, rfl, rfl, KNZ, KRZ, Lib.hid (ownsRow_more KOZ.out (by omega)), KBZ⟩
        case round =>
          obtain ⟨k, A, c, hk, rfl, rfl, HN, HR, HO, HB⟩ := hrel
          by_cases hlt : k < es.length
          · obtain ⟨_, _, hAE, _, _, hrow⟩ := HE.out.up HB.out
            injection hAE with hA1 hA2 hA3
            subst hA1 hA3
            obtain ⟨b, o, rfl, hbl, hcell⟩ := hrow.edit (fun _ h => h) hlt
            obtain ⟨e, he⟩ : ∃ e, es[k]? = some e := ⟨_, List.getElem?_eq_getElem hlt⟩
            obtain ⟨vR, hec, hR⟩ := hcell k e he
            have heok := List.all_eq_true.1 HAA.out e (List.mem_of_getElem? he)
            have HFT := Lib.hid (foldE_take (xs := xs) he)
            have hgo := foldE_ok (es.take k) HGG.out
            have hnum := foldE_num xs (es.take k)
            rw [List.length_take] at hnum
            obtain ⟨out, n, hon⟩ : ∃ out n, foldE xs (es.take k) = (out, n) := ⟨_, _, rfl⟩
            rw [hon] at HN HO HFT hgo hnum ⊢
            simp only at HN HO hgo hnum ⊢
            have HON := Lib.hid hon
            have HEC := Lib.hid hec
            have HRR := Lib.hid hR
            have HEO := Lib.hid heok
            have HGO := Lib.hid hgo
            have lN := HN.out.lt
            have lR2 := HR.out.lt
            have hbz := HB.out.size
            have hi : (k : Int) < (es.length : Int) := by omega
            clear hcell he hec hR heok hgo hon
            go_wp2_with fail
            refine (l07Apply_any w3.heap.size 0 b (o + k * 6) _ _ out e _ ⟨HN.out.cell rfl, lN⟩ HEC.out HO.out.sl HRR.out HGO.out HEO.out).mono ?_
            rintro r w4 ⟨hb4, v4, own4, rfl⟩
            obtain ⟨A4, c4, rfl, _⟩ := own_nil own4
            have HN4 := Lib.hid (HN.out.up hb4)
            have HR4 := Lib.hid (HR.out.up hb4)
            have HB4 := Lib.hid (Below.tr HB.out hb4)
            have HO4 := Lib.hid own4
            have bZ := hb4.alloc hb4.size (Obj.cells #[.slice A4 (applyOut out e).length c4] 31)
            have HN5 := Lib.hid (HN.out.up bZ)
            have HR5 := Lib.hid (HR.out.up bZ)
            have HO5 := Lib.hid (OwnRules.below HO.out bZ)
            have HB5 := Lib.hid (Below.tr HB.out bZ)
            have z4 := hb4.size
            clear hb4 own4 bZ HN HR HO
            by_cases hc : applyCode out e = 0
            · have HFT2 := Lib.hid (show foldE xs (es.take (k + 1)) = (applyOut out e, n + 1) by rw [HFT.out]; unfold stepE; rw [if_pos hc])
              rw [hc]
              clear hc
              have ws : IntKind.i64.wrap (n + 1) = n + 1 := IntWalk.i64_in _ (by omega)
              have xN := HN5.out.cell (i := 0) (v := .slice A out.length c) rfl
              have fN := HN5.out.frozen 0
              have lN5 : w3.heap.size < w4.heap.size := by omega
              go_wp2_with fail
              go_roundw
              case rel =>
                refine ⟨k + 1, A4, c4, by omega, by rw [HFT2.out], by go_num, ?_, ?_, ?_, ?_⟩
                · rw [HFT2.out]; exact Lib.hid ((HN4.out.set 0 _).alloc _)
                · exact Lib.hid ((HR4.out.other (p := ⟨w3.heap.size, 0, none⟩) (by show w.heap.size + 1 ≠ w3.heap.size; omega) _).alloc _)
                · rw [HFT2.out]; exact Lib.hid (World.ownsRow.alloc (ownsRow_more (ownsRow_setCell_below HO4.out (a := ⟨w3.heap.size, 0, none⟩) lN _) (by omega)) _)
                · exact Lib.hid ((Below.setCell HB4.out (by show w.heap.size ≤ w3.heap.size; omega) _).alloc (by show w.heap.size ≤ _; have := HB4.out.size; simp [World.setCell]; omega) _)
              case measure => simp [intOf]; omega
            · have HFT2 := Lib.hid (show foldE xs (es.take (k + 1)) = (out, n) by rw [HFT.out]; unfold stepE; rw [if_neg hc])
              have hcb : (applyCode out e == 0) = false := by simp [hc]
              go_wp2_with fail
              go_roundw
              case rel => exact ⟨k + 1, A, c, by omega, by rw [HFT2.out], by go_num, by rw [HFT2.out]; exact HN5, HR5, by rw [HFT2.out]; exact HO5, HB5⟩
              case measure => simp [intOf]; omega
          · have hkn : k = es.length := by omega
            subst hkn
            rw [List.take_length] at HN HO ⊢
            have xN := HN.out.cell (i := 0) (v := .slice A (foldE xs es).1.length c) rfl
            have lN := HN.out.lt
            have xR := HR.out.cell (i := 0) (v := .slice none 0 0) rfl
            have fR := HR.out.frozen 0
            have lR2 := HR.out.lt
            go_wp2_with fail
            refine bodyPost_ret (v := .tuple #[.agg #[.slice A (foldE xs es).1.length c], .int .i64 (foldE xs es).2, .int .i64 0]) (by simp [results, Tryz.results21, go_sem, xR]) rfl ⟨Below.setCell HB.out (by show w.heap.size ≤ w.heap.size + 1; omega) _, .slice A (foldE xs es).1.length c, ?_, by rw [HQ.out.2.1, HQ.out.2.2]⟩
            rw [HQ.out.1]
            exact ownsRow_more (ownsRow_setCell_below HO.out (a := ⟨w.heap.size + 1, 0, none⟩) (by show w.heap.size + 1 < w.heap.size + 2; omega) _) (by omega)
end Go.Proofs.YtfapnipmgmpgaaaGreatDoor

namespace Go.Proofs.YtfapnipmgmpgaaaGreatDoor
open Go.RowKit

set_option maxRecDepth 100000 in
set_option maxHeartbeats 4000000 in
theorem implApplyEdits_any (vG vE : Value) (xs : List GRule) (es : List GEdit) (w : World) (hG : Sl RuleE w w.heap.size vG xs) (hE : Sl EditE w w.heap.size vE es) (hn : xs.length ≤ 1048576) (hs : ∀ e ∈ es, e.part.length ≤ 1048576 ∧ e.map.size ≤ maxLen) (htab : Lib.TabIs Tryz.prog w "math/bits.deBruijn64tab" .u8 deB64) :
    Calls Tryz.prog 23 #[.agg #[vG], vE] w (ARes (aesOut xs es) (aesN xs es) (aesCode xs es) w) := by
  have HG := Lib.hid hG
  have HE := Lib.hid hE
  have HS := Lib.hid hs
  have HT := Lib.hid htab
  clear htab
  obtain ⟨AG, cG, rfl, _⟩ := hG
  obtain ⟨AE, cE, rfl, hcE, hmE, _⟩ := hE
  unfold maxLen at hmE
  clear hs
  have b1 := (Below.refl w.heap.size w).alloc (Nat.le_refl _) (Obj.cells #[.slice AG xs.length cG] 31)
  have b2 := b1.alloc b1.size (Obj.cells #[.slice none 0 0] 31)
  have KP : Blk ((w.alloc (Obj.cells #[.slice AG xs.length cG] 31)).alloc (Obj.cells #[.slice none 0 0] 31)) w.heap.size #[.slice AG xs.length cG] 31 := (Blk.new w _ _).alloc _
  have KR : Blk ((w.alloc (Obj.cells #[.slice AG xs.length cG] 31)).alloc (Obj.cells #[.slice none 0 0] 31)) (w.heap.size + 1) #[.slice none 0 0] 31 := by
    have := (Blk.new (w.alloc (Obj.cells #[.slice AG xs.length cG] 31)) #[.slice none 0 0] 31)
    simpa [Blk] using this
  go_enter Tryz.func23, Tryz.ntmps23
  go_upto_region 1 with fail
  generalize ((w.alloc (Obj.cells #[.slice AG xs.length cG] 31)).alloc (Obj.cells #[.slice none 0 0] 31)) = w0 at *
  have KB := Lib.hid b2
  clear b1 b2
  have cP0_1 := Blk.cell (i := 0) (v := .slice AG xs.length cG) KP rfl
  have lP_2 := Blk.lt KP
  go_wp2_with fail
  refine (ValidGrammar_any _ xs _ (HG.out.up KB.out) (by omega)).mono ?_
  rintro e w1 ⟨rfl, hb_3⟩
  have z_w1 : w0.heap.size ≤ w1.heap.size := hb_3.size
  have KB_4 := Lib.hid (Below.tr KB.out hb_3)
  have KP_5 := Blk.up KP hb_3
  have KR_6 := Blk.up KR hb_3
  clear cP0_1 lP_2 KB KP KR
  cases hg : gramOk xs with
  | false =>
    have hc : aesCode xs es = 1 := by simp [aesCode, hg]
    have HQ := Lib.hid (show aesOut xs es = [] ∧ aesN xs es = 0 ∧ aesCode xs es = 1 by unfold aesOut aesN; rw [hc]; exact ⟨rfl, rfl, rfl⟩)
    clear hg hc
    have cR0_7 := Blk.cell (i := 0) (v := .slice none 0 0) KR_6 rfl
    have zR0_8 := Blk.frozen KR_6 0
    have lR_9 := Blk.lt KR_6
    go_wp2_with fail
    refine bodyPost_ret (v := .tuple #[.agg #[.slice none 0 0], .int .i64 0, .int .i64 1]) (by simp [results, Tryz.results23, go_sem, cR0_7]) rfl ⟨Below.setCell KB_4.out (show w.heap.size ≤ w.heap.size + 1 by omega) _, .slice none 0 0, by rw [HQ.out.1]; exact World.ownsRow_nil _ _ _ _, by rw [HQ.out.2.1, HQ.out.2.2]⟩
  | true =>
    have HGG := Lib.hid hg
    clear hg
    have cR0_10 := Blk.cell (i := 0) (v := .slice none 0 0) KR_6 rfl
    have lR_11 := Blk.lt KR_6
    go_wp2_with fail
    refine (areEdits_any _ es _ (HE.out.up KB_4.out) HS.out).mono ?_
    rintro e w2 ⟨rfl, hb_12⟩
    have z_w2 : w1.heap.size ≤ w2.heap.size := hb_12.size
    have KB_13 := Lib.hid (Below.tr KB_4.out hb_12)
    have KP_14 := Blk.up KP_5 hb_12
    have KR_15 := Blk.up KR_6 hb_12
    clear hb_3 cR0_10 lR_11 KB_4 KP_5 KR_6
    cases ha : es.all editOk with
    | false =>
      have hc : aesCode xs es = 1 := by simp [aesCode, ha]
      have HQ := Lib.hid (show aesOut xs es = [] ∧ aesN xs es = 0 ∧ aesCode xs es = 1 by unfold aesOut aesN; rw [hc]; exact ⟨rfl, rfl, rfl⟩)
      clear ha hc
      have cR0_16 := Blk.cell (i := 0) (v := .slice none 0 0) KR_15 rfl
      have zR0_17 := Blk.frozen KR_15 0
      have lR_18 := Blk.lt KR_15
      go_wp2_with fail
      refine bodyPost_ret (v := .tuple #[.agg #[.slice none 0 0], .int .i64 0, .int .i64 1]) (by simp [results, Tryz.results23, go_sem, cR0_16]) rfl ⟨Below.setCell KB_13.out (show w.heap.size ≤ w.heap.size + 1 by omega) _, .slice none 0 0, by rw [HQ.out.1]; exact World.ownsRow_nil _ _ _ _, by rw [HQ.out.2.1, HQ.out.2.2]⟩
    | true =>
      have HAA := Lib.hid ha
      clear ha
      by_cases hl : 60 < es.length
      · have hc : aesCode xs es = 2 := by unfold aesCode; rw [HGG.out, HAA.out, if_pos (by rfl), if_pos hl]
        have HQ := Lib.hid (show aesOut xs es = [] ∧ aesN xs es = 0 ∧ aesCode xs es = 2 by unfold aesOut aesN; rw [hc]; exact ⟨rfl, rfl, rfl⟩)
        have hli : (60 : Int) < (es.length : Int) := by omega
        clear hc
        have cR0_19 := Blk.cell (i := 0) (v := .slice none 0 0) KR_15 rfl
        have zR0_20 := Blk.frozen KR_15 0
        have lR_21 := Blk.lt KR_15
        go_wp2_with fail
        refine bodyPost_ret (v := .tuple #[.agg #[.slice none 0 0], .int .i64 0, .int .i64 2]) (by simp [results, Tryz.results23, go_sem, cR0_19]) rfl ⟨Below.setCell KB_13.out (show w.heap.size ≤ w.heap.size + 1 by omega) _, .slice none 0 0, by rw [HQ.out.1]; exact World.ownsRow_nil _ _ _ _, by rw [HQ.out.2.1, HQ.out.2.2]⟩
      · have hc : aesCode xs es = 0 := by unfold aesCode; rw [HGG.out, HAA.out, if_pos (by rfl), if_neg hl]
        have HQ := Lib.hid (show aesOut xs es = (foldE xs es).1 ∧ aesN xs es = (foldE xs es).2 ∧ aesCode xs es = 0 by unfold aesOut aesN; rw [hc]; exact ⟨rfl, rfl, rfl⟩)
        have hli : ¬ (60 : Int) < (es.length : Int) := by omega
        have hx4 := gram_len400 HGG.out
        clear hc
        have hs2 : w.heap.size + 2 ≤ w2.heap.size := Blk.lt KR_15
        have cR0_22 := Blk.cell (i := 0) (v := .slice none 0 0) KR_15 rfl
        have lR_23 := Blk.lt KR_15
        have cP0_24 := Blk.cell (i := 0) (v := .slice AG xs.length cG) KP_14 rfl
        have lP_25 := Blk.lt KP_14
        go_wp2_with fail
        refine (copied_any _ xs _ (HG.out.up KB_13.out) (by omega)).mono ?_
        rintro e w3 ⟨vN, rfl, ownN, hb_26⟩
        have z_w3 : w2.heap.size ≤ w3.heap.size := hb_26.size
        have KB_27 := Lib.hid (Below.tr KB_13.out hb_26)
        have KP_28 := Blk.up KP_14 hb_26
        have KR_29 := Blk.up KR_15 hb_26
        clear hb_12 cR0_22 lR_23 cP0_24 lP_25 KB_13 KP_14 KR_15
        obtain ⟨AN, cN, rfl, _⟩ := own_nil ownN
        have bZ := (Below.refl w3.heap.size w3).alloc (Nat.le_refl _) (Obj.cells #[.slice AN xs.length cN] 31)
        have KN := Blk.new w3 #[.slice AN xs.length cN] 31
        have KO := OwnRules.below ownN bZ
        have hsz := Below.size KB_27.out
        have lR := Blk.lt KR_29
        have lP := Blk.lt KP_28
        have KBZ := Lib.hid (Below.tr KB_27.out bZ)
        have KRZ := Lib.hid (Blk.up KR_29 bZ)
        have KOZ := Lib.hid KO
        have KNZ := Lib.hid KN
        clear ownN KO KN bZ
        go_wp2_with fail
        go_loopw [8, 32] (fun d i wx => ∃ (k : Nat) (A : Option Addr) (c : Nat), k ≤ es.length ∧ d = .int .i64 (foldE xs (es.take k)).2 ∧ i = .int .i64 k ∧ Hid (Blk wx w3.heap.size #[.slice A (foldE xs (es.take k)).1.length c] 31) ∧ Hid (Blk wx (w.heap.size + 1) #[.slice none 0 0] 31) ∧ Hid (OwnRules wx (w.heap.size + 2) (.slice A (foldE xs (es.take k)).1.length c) (foldE xs (es.take k)).1) ∧ Hid (Below w.heap.size w wx)) (fun _ i _ => es.length - (intOf i).toNat)
        case atStart => exact ⟨0, AN, cN, Nat.zero_le _, rfl, rfl, KNZ, KRZ, Lib.hid (ownsRow_more KOZ.out (by omega)), KBZ⟩
        case round =>
          obtain ⟨k, A, c, hk, rfl, rfl, HN, HR, HO, HB⟩ := hrel
          by_cases hlt : k < es.length
          · obtain ⟨_, _, hAE, _, _, hrow⟩ := HE.out.up HB.out
            injection hAE with hA1 hA2 hA3
            subst hA1 hA3
            obtain ⟨b, o, rfl, hbl, hcell⟩ := hrow.edit (fun _ h => h) hlt
            obtain ⟨e, he⟩ : ∃ e, es[k]? = some e := ⟨_, List.getElem?_eq_getElem hlt⟩
            obtain ⟨vR, hec, hR⟩ := hcell k e he
            have heok := List.all_eq_true.1 HAA.out e (List.mem_of_getElem? he)
            have HFT := Lib.hid (foldE_take (xs := xs) he)
            have hgo := foldE_ok (es.take k) HGG.out
            have hnum := foldE_num xs (es.take k)
            rw [List.length_take] at hnum
            obtain ⟨out, n, hon⟩ : ∃ out n, foldE xs (es.take k) = (out, n) := ⟨_, _, rfl⟩
            rw [hon] at HN HO HFT hgo hnum ⊢
            simp only at HN HO hgo hnum ⊢
            have HON := Lib.hid hon
            have HEC := Lib.hid hec
            have HRR := Lib.hid hR
            have HEO := Lib.hid heok
            have HGO := Lib.hid hgo
            have lN := HN.out.lt
            have lR2 := HR.out.lt
            have hbz := HB.out.size
            have hi : (k : Int) < (es.length : Int) := by omega
            have hse := HS.out e (List.mem_of_getElem? he)
            have ho4 := gram_len400 hgo
            obtain ⟨AR, cR, rfl, _⟩ := hR
            obtain ⟨x0, x1, x2, x3, x4, x5, xl⟩ := HEC.out
            have xN := HN.out.cell (i := 0) (v := .slice A out.length c) rfl
            clear hcell he hec heok hgo hon
            go_wp2_with fail
            refine (implApply_any _ _ out e _ (HO.out.sl.up (by repeat (first | exact Below.refl _ _ | (refine Below.alloc ?_ (by first | omega | (simp; done) | (simp; omega)) _) | (refine Below.setCell ?_ (by first | exact Nat.le_refl _ | (show _ ≤ _; omega) | (simp; done) | (simp; omega)) _) | refine below_drewN ?_ _ | refine Below.drew ?_))) ⟨_, rfl, HRR.out.up (by repeat (first | exact Below.refl _ _ | (refine Below.alloc ?_ (by first | omega | (simp; done) | (simp; omega)) _) | (refine Below.setCell ?_ (by first | exact Nat.le_refl _ | (show _ ≤ _; omega) | (simp; done) | (simp; omega)) _) | refine below_drewN ?_ _ | refine Below.drew ?_))⟩ (by omega) hse.1 hse.2 (tabB HT.out (by repeat (first | exact HB.out | (refine Below.alloc ?_ (by first | omega | (simp; done) | (simp; omega)) _) | (refine Below.setCell ?_ (by first | exact Nat.le_refl _ | (show _ ≤ _; omega) | (simp; done) | (simp; omega)) _) | refine below_drewN ?_ _ | refine Below.drew ?_)))).mono ?_
            rintro r w4 ⟨hb4', v4, own4', rfl⟩
            have hb4 := (Below.unalloc hb4').1
            have own4 : OwnRules w4 wr.heap.size v4 (applyOut out e) := ownsRow_more own4' (by simp)
            clear hb4' own4' x0 x1 x2 x3 x4 x5 xl xN
            obtain ⟨A4, c4, rfl, _⟩ := own_nil own4
            have HN4 := Lib.hid (HN.out.up hb4)
            have HR4 := Lib.hid (HR.out.up hb4)
            have HB4 := Lib.hid (Below.tr HB.out hb4)
            have HO4 := Lib.hid own4
            have bZ := hb4.alloc hb4.size (Obj.cells #[.slice A4 (applyOut out e).length c4] 31)
            have HN5 := Lib.hid (HN.out.up bZ)
            have HR5 := Lib.hid (HR.out.up bZ)
            have HO5 := Lib.hid (OwnRules.below HO.out bZ)
            have HB5 := Lib.hid (Below.tr HB.out bZ)
            have z4 := hb4.size
            clear hb4 own4 bZ HN HR HO
            by_cases hc : applyCode out e = 0
            · have HFT2 := Lib.hid (show foldE xs (es.take (k + 1)) = (applyOut out e, n + 1) by rw [HFT.out]; unfold stepE; rw [if_pos hc])
              rw [hc]
              clear hc
              have ws : IntKind.i64.wrap (n + 1) = n + 1 := IntWalk.i64_in _ (by omega)
              have xN := HN5.out.cell (i := 0) (v := .slice A out.length c) rfl
              have fN := HN5.out.frozen 0
              have lN5 : w3.heap.size < w4.heap.size := by omega
              go_wp2_with fail
              go_roundw
              case rel =>
                refine ⟨k + 1, A4, c4, by omega, by rw [HFT2.out], by go_num, ?_, ?_, ?_, ?_⟩
                · rw [HFT2.out]; exact Lib.hid ((HN4.out.set 0 _).alloc _)
                · exact Lib.hid ((HR4.out.other (p := ⟨w3.heap.size, 0, none⟩) (by show w.heap.size + 1 ≠ w3.heap.size; omega) _).alloc _)
                · rw [HFT2.out]; exact Lib.hid (World.ownsRow.alloc (ownsRow_more (ownsRow_setCell_below HO4.out (a := ⟨w3.heap.size, 0, none⟩) lN _) (by omega)) _)
                · exact Lib.hid ((Below.setCell HB4.out (by show w.heap.size ≤ w3.heap.size; omega) _).alloc (by show w.heap.size ≤ _; have := HB4.out.size; simp [World.setCell]; omega) _)
              case measure => simp [intOf]; omega
            · have HFT2 := Lib.hid (show foldE xs (es.take (k + 1)) = (out, n) by rw [HFT.out]; unfold stepE; rw [if_neg hc])
              have hcb : (applyCode out e == 0) = false := by simp [hc]
              go_wp2_with fail
              go_roundw
              case rel => exact ⟨k + 1, A, c, by omega, by rw [HFT2.out], by go_num, by rw [HFT2.out]; exact HN5, HR5, by rw [HFT2.out]; exact HO5, HB5⟩
              case measure => simp [intOf]; omega
          · have hkn : k = es.length := by omega
            subst hkn
            rw [List.take_length] at HN HO ⊢
            have xN := HN.out.cell (i := 0) (v := .slice A (foldE xs es).1.length c) rfl
            have lN := HN.out.lt
            have xR := HR.out.cell (i := 0) (v := .slice none 0 0) rfl
            have fR := HR.out.frozen 0
            have lR2 := HR.out.lt
            go_wp2_with fail
            refine bodyPost_ret (v := .tuple #[.agg #[.slice A (foldE xs es).1.length c], .int .i64 (foldE xs es).2, .int .i64 0]) (by simp [results, Tryz.results23, go_sem, xR]) rfl ⟨Below.setCell HB.out (by show w.heap.size ≤ w.heap.size + 1; omega) _, .slice A (foldE xs es).1.length c, ?_, by rw [HQ.out.2.1, HQ.out.2.2]⟩
            rw [HQ.out.1]
            exact ownsRow_more (ownsRow_setCell_below HO.out (a := ⟨w.heap.size + 1, 0, none⟩) (by show w.heap.size + 1 < w.heap.size + 2; omega) _) (by omega)
end Go.Proofs.YtfapnipmgmpgaaaGreatDoor

