import Derived.Test.YtfapnipmgmpgaaaGreatDoorM11
import Derived.Test.YtfapnipmgmpgaaaGreatDoorM8
import Derived.Test.YtfapnipmgmpgaaaGreatDoorM9
import Derived.Test.YtfapnipmgmpgaaaGreatDoorM3
import Derived.Test.YtfapnipmgmpgaaaGreatDoorM10
import Derived.Test.YtfapnipmgmpgaaaGreatDoorM6
namespace Go.Proofs
theorem Tryz.infoEd : (Tryz.prog.info? 36).map (fun i => (i.zero, i.size, i.bytes)) = some (some (.agg #[.int .i64 0, .int .i64 0, .int .i64 0, .int .i64 0, .slice none 0 0, .string ⟨#[]⟩]), 6, 72) := by kernel_rfl
end Go.Proofs
namespace Go.Proofs.YtfapnipmgmpgaaaGreatDoor
open Go.RowKit

theorem szE_le3 {e : GEdit} {left : Int} (h : 0 ≤ szE e left) : szE e left ≤ left ∧ (e.part.length : Int) ≤ left ∧ (e.map.size : Int) ≤ left := by
  unfold szE at *
  split at h
  · omega
  · rename_i h1
    obtain ⟨h3, h2⟩ := szRs_le e.part left (by omega)
    split at h
    · omega
    · rename_i h4
      rw [if_neg h1, if_neg h4]; omega
def szEE : List GEdit → Int → Int
  | [], left => left
  | e :: es, left => if szE e left < 0 then -1 else szEE es (szE e left)
def szES (es : List GEdit) (left : Int) : Int := if left - es.length < 0 then -1 else szEE es (left - es.length)
theorem szEE_at (es : List GEdit) (left : Int) (k : Nat) (e : GEdit) (he : es[k]? = some e) : szEE (es.drop k) left = if szE e left < 0 then -1 else szEE (es.drop (k + 1)) (szE e left) := by
  obtain ⟨hk, rfl⟩ := List.getElem?_eq_some_iff.1 he
  rw [List.drop_eq_getElem_cons hk]; rfl
/-- The rules of all parts. -/
def partsLen (es : List GEdit) : Nat := (es.map fun e => e.part.length).sum
theorem szEE_le (es : List GEdit) : ∀ left : Int, 0 ≤ left → 0 ≤ szEE es left → (∀ e ∈ es, (e.part.length : Int) ≤ left ∧ (e.map.size : Int) ≤ left) := by
  induction es with
  | nil => intro l _ _ e he; cases he
  | cons x xs ih =>
    intro l hl h e he
    unfold szEE at h
    split at h
    · omega
    · obtain ⟨h1, h2, h3⟩ := szE_le3 (e := x) (left := l) (by omega)
      rcases List.mem_cons.1 he with rfl | he
      · exact ⟨h2, h3⟩
      · obtain ⟨h4, h5⟩ := ih _ (by omega) h e he
        exact ⟨by omega, by omega⟩
theorem szES_le {es : List GEdit} {left : Int} (h : 0 ≤ szES es left) : (es.length : Int) ≤ left ∧ (∀ e ∈ es, (e.part.length : Int) ≤ left ∧ (e.map.size : Int) ≤ left) := by
  unfold szES at h
  split at h
  · omega
  · refine ⟨by omega, fun e he => ?_⟩
    obtain ⟨h1, h2⟩ := szEE_le es _ (by omega) h e he
    exact ⟨by omega, by omega⟩
set_option maxRecDepth 100000 in
set_option maxHeartbeats 1000000 in
theorem szEditS_any (v : Value) (es : List GEdit) (left : Int) (w : World) (h : Sl EditE w w.heap.size v es) (hsm : ∀ e ∈ es, SmallL e.part ∧ e.map.size ≤ maxLen) (hl : 0 ≤ left ∧ left ≤ 1048576) :
    Calls Tryz.prog 20 #[v, .int .i64 left] w fun r w' => r = .returned (.int .i64 (szES es left)) ∧ Below w.heap.size w w' := by
  obtain ⟨A, c, rfl, hc, hm, hrow⟩ := h
  unfold maxLen at hm
  go_enter Tryz.func20, Tryz.ntmps20
  go_wp2_with fail
  · go_ret
    exact ⟨ret_int (by unfold szES; rw [if_pos (by omega)]), Below.refl _ _⟩
  · have hfin : szES es left = szEE es (left - es.length) := by unfold szES; rw [if_neg (by omega)]
    have Hfin := Lib.hid hfin
    clear hfin
    go_loopw [1, 5] (fun l i wr => ∃ (k : Nat) (q : Int), k ≤ es.length ∧ 0 ≤ q ∧ q ≤ 1048576 ∧ i = .int .i64 k ∧ l = .int .i64 q ∧ Hid (szEE (es.drop k) q = szES es left) ∧ Below w.heap.size w wr) (fun _ i _ => es.length - (intOf i).toNat)
    case atStart => exact ⟨0, _, Nat.zero_le _, by omega, by omega, rfl, rfl, by rw [Hfin.out]; rfl, Below.refl _ _⟩
    case round =>
      obtain ⟨k, q, hk, hq0, hq1, rfl, rfl, HN, hb⟩ := hrel
      by_cases hlt : k < es.length
      · obtain ⟨b, o, rfl, hbl, hcell⟩ := hrow.edit (fun _ h => h) hlt
        obtain ⟨e, he⟩ : ∃ e, es[k]? = some e := ⟨_, List.getElem?_eq_getElem hlt⟩
        obtain ⟨vR, hec, hR⟩ := hcell k e he
        have hec2 := hec.up hb
        have HR2 := Lib.hid (hR.up hb)
        obtain ⟨hsx, hmx⟩ := hsm e (List.mem_of_getElem? he)
        have He := Lib.hid he
        obtain ⟨c0, c1, c2, c3, c4, c5, cl⟩ := hec2
        have hi : (k : Int) < (es.length : Int) := by omega
        clear hcell he hec hR
        go_wp2_with fail
        refine (szEdit_any _ e q _ ⟨_, rfl, HR2.out⟩ hsx hmx ⟨hq0, hq1⟩).mono ?_
        rintro r w2 ⟨rfl, hb2⟩
        have HB2 := Lib.hid (hb.trans (hb2.mono hb.size))
        clear hb hb2 c0 c1 c2 c3 c4 c5
        by_cases hz : szE e q < 0
        · have HZ := Lib.hid hz
          go_wp2_with fail
          go_ret
          exact ⟨ret_int (by have := HN.out; rw [szEE_at _ _ _ _ He.out, if_pos HZ.out] at this; exact this), HB2.out⟩
        · have hz2 := szE_le3 (e := e) (left := q) (by omega)
          have HZ := Lib.hid hz
          go_wp2_with fail
          go_roundw
          case rel => exact ⟨k + 1, _, by omega, by omega, by omega, by go_num, rfl, by have := HN.out; rw [szEE_at _ _ _ _ He.out, if_neg (by have := HZ.out; omega)] at this; exact this, HB2.out⟩
          case measure => simp [intOf]; omega
      · go_wp2
        go_ret
        exact ⟨ret_int (by have := HN.out; rw [List.drop_eq_nil_of_le (by omega)] at this; exact this), hb⟩
set_option maxRecDepth 100000 in
set_option maxHeartbeats 1000000 in
theorem eqEditS_any (v v' : Value) (es : List GEdit) (w : World) (h : Sl EditE w w.heap.size v es) (h' : Sl EditE w w.heap.size v' es) :
    Calls Tryz.prog 24 #[v, v'] w fun r w' => r = .returned (.bool true) ∧ Below w.heap.size w w' := by
  obtain ⟨A, c, rfl, hc, hm, hrow⟩ := h
  obtain ⟨A', c', rfl, hc', hm', hrow'⟩ := h'
  unfold maxLen at hm
  have hn : es.length ≤ 9223372036854775807 := by omega
  clear hm hm'
  go_enter Tryz.func24, Tryz.ntmps24
  go_wp2_with fail
  go_loopw [5] (fun i wr => ∃ (k : Nat), k ≤ es.length ∧ i = .int .i64 k ∧ Below w.heap.size w wr) (fun i _ => es.length - (intOf i).toNat)
  case atStart => exact ⟨0, Nat.zero_le _, rfl, Below.refl _ _⟩
  case round =>
    obtain ⟨k, hk, rfl, hb⟩ := hrel
    by_cases hlt : k < es.length
    · obtain ⟨b, o, rfl, hbl, hcell⟩ := hrow.edit (fun _ h => h) hlt
      obtain ⟨b', o', rfl, hbl', hcell'⟩ := hrow'.edit (fun _ h => h) hlt
      obtain ⟨e, he⟩ : ∃ e, es[k]? = some e := ⟨_, List.getElem?_eq_getElem hlt⟩
      obtain ⟨vR, hec, hR⟩ := hcell k e he
      obtain ⟨vR', hec', hR'⟩ := hcell' k e he
      have E1 := Lib.hid (hec.up hb)
      have E2 := Lib.hid (hec'.up hb)
      have R1 := Lib.hid (hR.up hb)
      have R2 := Lib.hid (hR'.up hb)
      have hi : (k : Int) < (es.length : Int) := by omega
      have hsz : w.heap.size ≤ wr.heap.size := hb.size
      have HB := Lib.hid hb
      clear hcell hcell' he hec hec' hR hR' hb
      obtain ⟨c0, c1, c2, c3, c4, c5, cl⟩ := E1.out
      obtain ⟨d0, d1, d2, d3, d4, d5, dl⟩ := E2.out
      go_wp2_with fail
      go_still_tail 8, (by kernel_rfl)
      change wpList _ _ _ _ _ wr.drew
      go_wp2_with fail
      refine (eqEdit_any _ _ e _ ⟨_, rfl, R1.out.up (Below.drew (Below.refl _ _))⟩ ⟨_, rfl, R2.out.up (Below.drew (Below.refl _ _))⟩).mono ?_
      rintro r w2 ⟨rfl, hb2⟩
      go_wp2_with fail
      go_roundw
      case rel => exact ⟨k + 1, by omega, by go_num, HB.out.trans ((Below.undrew hb2).mono hsz)⟩
      case measure => simp [intOf]; omega
    · go_wp2
      go_ret
      exact ⟨rfl, hb⟩
end Go.Proofs.YtfapnipmgmpgaaaGreatDoor

namespace Go.Proofs.YtfapnipmgmpgaaaGreatDoor
open Go.RowKit

/-- The six cells of an edit. -/
def epCells (p : GEdit × Value) : List Value := [.int .i64 p.1.kind, .int .i64 p.1.i, .int .i64 p.1.j, .int .i64 p.1.k, p.2, .string p.1.map]
theorem ep_len (ps : List (GEdit × Value)) : (ps.flatMap epCells).length = ps.length * 6 := by
  induction ps with
  | nil => rfl
  | cons x xs ih => rw [List.flatMap_cons, List.length_append, ih]; simp [epCells]; omega
theorem set6 (ps : List (GEdit × Value)) (k : Nat) (p : GEdit × Value) (h : k < ps.length) :
    ((((((ps.flatMap epCells).set (k * 6) (.int .i64 p.1.kind)).set (k * 6 + 1) (.int .i64 p.1.i)).set (k * 6 + 2) (.int .i64 p.1.j)).set (k * 6 + 3) (.int .i64 p.1.k)).set (k * 6 + 4) p.2).set (k * 6 + 5) (.string p.1.map) = (ps.set k p).flatMap epCells := by
  induction ps generalizing k with
  | nil => simp at h
  | cons x xs ih =>
    cases k with
    | zero => simp [epCells]
    | succ k =>
      have := ih k (by simpa using h)
      simp only [List.flatMap_cons, List.set_cons_succ]
      have e : (epCells x).length = 6 := rfl
      rw [List.set_append, if_neg (by omega), e, List.set_append, if_neg (by omega), e, List.set_append, if_neg (by omega), e, List.set_append, if_neg (by omega), e, List.set_append, if_neg (by omega), e, List.set_append, if_neg (by omega), e]
      rw [show (k+1)*6-6 = k*6 by omega, show (k+1)*6+1-6 = k*6+1 by omega, show (k+1)*6+2-6 = k*6+2 by omega, show (k+1)*6+3-6 = k*6+3 by omega, show (k+1)*6+4-6 = k*6+4 by omega, show (k+1)*6+5-6 = k*6+5 by omega, this]
theorem ep_at (ps : List (GEdit × Value)) (k : Nat) (p : GEdit × Value) (h : ps[k]? = some p) (j : Nat) (hj : j < 6) : (ps.flatMap epCells)[k * 6 + j]? = (epCells p)[j]? := by
  induction ps generalizing k with
  | nil => simp at h
  | cons x xs ih =>
    cases k with
    | zero =>
      simp at h; subst h
      rw [List.flatMap_cons, List.getElem?_append_left (by simp [epCells]; omega), Nat.zero_mul, Nat.zero_add]
    | succ k =>
      have := ih k (by simpa using h)
      rw [List.flatMap_cons, List.getElem?_append_right (by simp [epCells]; omega)]
      rw [show (k + 1) * 6 + j - (epCells x).length = k * 6 + j by simp [epCells]; omega]
      exact this
theorem set_same {α : Type} {l : List α} {k : Nat} {x : α} (h : l[k]? = some x) : l.set k x = l := by
  apply List.ext_getElem?
  intro i
  by_cases hi : k = i
  · subst hi
    rw [List.getElem?_set_self (List.getElem?_eq_some_iff.1 h).1, h]
  · rw [List.getElem?_set_ne hi]
theorem set5 (ps : List (GEdit × Value)) (k : Nat) (p q : GEdit × Value) (hq : ps[k]? = some q) (h2 : q.2 = p.2) :
    (((((ps.flatMap epCells).set (k * 6) (.int .i64 p.1.kind)).set (k * 6 + 1) (.int .i64 p.1.i)).set (k * 6 + 2) (.int .i64 p.1.j)).set (k * 6 + 3) (.int .i64 p.1.k)).set (k * 6 + 5) (.string p.1.map) = (ps.set k p).flatMap epCells := by
  have hk : k < ps.length := (List.getElem?_eq_some_iff.1 hq).1
  rw [← set6 ps k p hk]
  congr 1
  refine (set_same ?_).symm
  rw [List.getElem?_set_ne (by omega), List.getElem?_set_ne (by omega), List.getElem?_set_ne (by omega), List.getElem?_set_ne (by omega), ep_at ps k q hq 4 (by omega), ← h2]; rfl

/-- The rules of one edit of a row: nothing, or a row of its own between two numbers, apart from the row of edits v. -/
def PartAt (w : World) (v : Value) (a b : Nat) (p : GEdit × Value) : Prop :=
  ((p.1.part = [] ∧ ∃ A c, p.2 = .slice A 0 c ∧ c ≤ maxLen) ∨ OwnR w a b p.2 p.1.part) ∧ ∀ g, v.ownBlock = some g → g < a ∨ b ≤ g
theorem PartAt.keep {w w' : World} {v : Value} {a b : Nat} {p : GEdit × Value} (h : PartAt w v a b p) (hk : ∀ g, a ≤ g → g < b → w'.heap[g]? = w.heap[g]?) (hs : w.heap.size ≤ w'.heap.size) : PartAt w' v a b p := by
  refine ⟨?_, h.2⟩
  rcases h.1 with h | h1
  · exact .inl h
  · exact .inr ⟨own_keep h1.1 fun g hg => hk g (h1.rng g hg).1 (h1.rng g hg).2, h1.2.1, Nat.le_trans h1.2.2 hs⟩
theorem PartAt.row {w w' : World} {v : Value} {a b g : Nat} {p : GEdit × Value} (h : PartAt w v a b p) (hv : v.ownBlock = some g) (hb : b ≤ w.heap.size) (hg : w.grownBy w' (some g)) : PartAt w' v a b p :=
  h.keep (fun g' h1 h2 => hg.block g' (by omega) (fun e => by have := h.2 g hv; simp at e; omega)) hg.size
theorem PartAt.sl {w : World} {v : Value} {a b : Nat} {p : GEdit × Value} (h : PartAt w v a b p) : Sl RuleE w w.heap.size p.2 p.1.part := by
  rcases h.1 with ⟨h1, A, c, h2, h3⟩ | h1
  · rw [h1, h2]; exact ⟨A, c, rfl, Nat.zero_le _, h3, fun h => absurd h (by simp)⟩
  · exact h1.sl
structure PartsR (w : World) (v : Value) (lo hi : Nat) (r : Nat → Nat) (ps : List (GEdit × Value)) : Prop where
  low : lo ≤ r 0
  mono : ∀ i j, i ≤ j → r i ≤ r j
  high : ∀ i, r i ≤ hi
  at_ : ∀ i p, ps[i]? = some p → PartAt w v (r (2 * i)) (r (2 * i + 1)) p
theorem PartsR.keep {w w' : World} {v : Value} {lo hi : Nat} {r : Nat → Nat} {ps : List (GEdit × Value)} (h : PartsR w v lo hi r ps) (hk : ∀ g, lo ≤ g → g < hi → v.ownBlock ≠ some g → w'.heap[g]? = w.heap[g]?) (hs : w.heap.size ≤ w'.heap.size) : PartsR w' v lo hi r ps := by
  refine ⟨h.low, h.mono, h.high, fun i p hp => ?_⟩
  obtain ⟨h0, h2⟩ := h.at_ i p hp
  refine ⟨?_, h2⟩
  rcases h0 with h1 | h1
  · exact .inl h1
  · refine .inr ⟨own_keep h1.1 fun g hg => ?_, h1.2.1, Nat.le_trans h1.2.2 hs⟩
    have hr := h1.rng g hg
    have a1 := h.mono 0 (2 * i) (Nat.zero_le _)
    have a2 := h.high (2 * i + 1)
    have a3 := h.low
    refine hk g (by omega) (by omega) fun e => ?_
    have := h2 g e
    omega
theorem PartsR.mark {w w' : World} {v : Value} {lo hi : Nat} {r : Nat → Nat} {ps : List (GEdit × Value)} (h : PartsR w v lo hi r ps) (n : Nat) (q : GEdit × Value) (hq : PartAt w' v (r (2 * n)) (r (2 * n + 1)) q)
    (hk : ∀ g, g < w.heap.size → v.ownBlock ≠ some g → g < r (2 * n) ∨ r (2 * n + 1) ≤ g → w'.heap[g]? = w.heap[g]?) (hs : w.heap.size ≤ w'.heap.size) : PartsR w' v lo hi r (ps.set n q) := by
  refine ⟨h.low, h.mono, h.high, fun i p hp => ?_⟩
  by_cases hi' : n = i
  · subst hi'
    have : n < ps.length := by
      have := (List.getElem?_eq_some_iff.1 hp).1
      simpa using this
    rw [List.getElem?_set_self this] at hp
    cases hp; exact hq
  · rw [List.getElem?_set_ne hi'] at hp
    obtain ⟨h0, h2⟩ := h.at_ i p hp
    refine ⟨?_, h2⟩
    rcases h0 with h1 | h1
    · exact .inl h1
    · refine .inr ⟨own_keep h1.1 fun g hg => ?_, h1.2.1, Nat.le_trans h1.2.2 hs⟩
      have hr := h1.rng g hg
      refine hk g (by have := h1.2.2; omega) (fun e => by have := h2 g e; omega) ?_
      rcases Nat.lt_or_ge i n with hlt | hge
      · have := h.mono (2 * i + 1) (2 * n) (by omega); omega
      · have := h.mono (2 * n + 1) (2 * i) (by omega); omega
theorem PartsR.snoc {w : World} {v : Value} {lo hi hi' : Nat} {r : Nat → Nat} {ps : List (GEdit × Value)} {q : GEdit × Value} (h : PartsR w v lo hi r ps) (hq : PartAt w v hi hi' q) (hh : hi ≤ hi') (hl : lo ≤ hi) : ∃ r', PartsR w v lo hi' r' (ps ++ [q]) := by
  refine ⟨fun j => if j < 2 * ps.length then r j else if j = 2 * ps.length then hi else hi', ?_, ?_, ?_, ?_⟩
  · have := h.low
    split
    · omega
    · split <;> omega
  · intro i j hij
    have h1 := h.mono i j hij
    have h2 := h.high i
    repeat' split
    all_goals omega
  · intro i
    have h2 := h.high i
    repeat' split
    all_goals omega
  · intro i p hp
    rcases Nat.lt_or_ge i ps.length with hlt | hge
    · rw [List.getElem?_append_left hlt] at hp
      have := h.at_ i p hp
      simp only [show 2 * i < 2 * ps.length by omega, show 2 * i + 1 < 2 * ps.length by omega, if_true]
      exact this
    · rw [List.getElem?_append_right hge] at hp
      have hi0 : i = ps.length := by
        have := (List.getElem?_eq_some_iff.1 hp).1
        simp at this; omega
      subst hi0
      simp at hp
      subst hp
      simp only [Nat.lt_irrefl, if_false, if_true, show ¬ (2 * ps.length + 1 < 2 * ps.length) by omega, show ¬ (2 * ps.length + 1 = 2 * ps.length) by omega]
      exact hq
theorem PartsR.nil {w : World} {v : Value} {lo hi : Nat} (h : lo ≤ hi) : PartsR w v lo hi (fun _ => hi) [] := ⟨h, fun _ _ _ => Nat.le_refl _, fun _ => Nat.le_refl _, fun i p hp => by simp at hp⟩
theorem PartsR.le {w : World} {v : Value} {lo lo' hi hi' : Nat} {r : Nat → Nat} {ps : List (GEdit × Value)} (h : PartsR w v lo hi r ps) (h1 : lo' ≤ lo) (h2 : hi ≤ hi') : PartsR w v lo' hi' r ps := ⟨Nat.le_trans h1 h.low, h.mono, fun i => Nat.le_trans (h.high i) h2, h.at_⟩
/-- A row of edits of one's own, between two block numbers. -/
def OEds (w : World) (lo hi : Nat) (v : Value) (es : List GEdit) : Prop :=
  ∃ ps r, ps.map Prod.fst = es ∧ w.ownsRow lo 36 6 v es.length (ps.flatMap epCells) ∧ (∀ g, v.ownBlock = some g → g < hi) ∧ hi ≤ w.heap.size ∧ PartsR w v lo hi r ps
section
variable {w w' : World} {lo hi : Nat} {v : Value} {es : List GEdit}
theorem OEds.keep (h : OEds w lo hi v es) (hk : ∀ g, lo ≤ g → g < hi → w'.heap[g]? = w.heap[g]?) (hs : w.heap.size ≤ w'.heap.size) : OEds w' lo hi v es := by
  obtain ⟨ps, r, h1, h2, h3, h4, h5⟩ := h
  exact ⟨ps, r, h1, own_keep h2 fun g hg => hk g (World.ownsRow.lt h2 g hg).1 (h3 g hg), h3, Nat.le_trans h4 hs, h5.keep (fun g a b _ => hk g a b) hs⟩
theorem OEds.up (h : OEds w lo hi v es) (hb : Below w.heap.size w w') : OEds w' lo hi v es := h.keep (fun g _ b => hb.block g (by obtain ⟨_, _, _, _, _, h4, _⟩ := h; omega)) hb.size
theorem OEds.chg {lo' hi' : Nat} (h : OEds w lo hi v es) (hc : Chg lo' hi' w w') (hne : hi ≤ lo' ∨ hi' ≤ lo) : OEds w' lo hi v es :=
  h.keep (fun g a b => hc.block g (by obtain ⟨_, _, _, _, _, h4, _⟩ := h; omega) (by omega)) hc.size
theorem ps_at {ps : List (GEdit × Value)} {i : Nat} {e : GEdit} (h : (ps.map Prod.fst)[i]? = some e) : ∃ u, ps[i]? = some (e, u) := by
  rw [List.getElem?_map] at h
  obtain ⟨p, h1, h2⟩ := Option.map_eq_some_iff.1 h
  exact ⟨p.2, by rw [h1, ← h2]⟩
theorem OEds.sl (h : OEds w lo hi v es) : Sl EditE w w.heap.size v es := by
  obtain ⟨ps, r, rfl, h2, h3, h4, h5⟩ := h
  obtain ⟨A, cap, rfl, c1, c2⟩ := own_nil h2
  refine ⟨A, cap, rfl, c1, c2, Row.of_own (E := EditE) h2 rfl (fun g hg => (World.ownsRow.lt h2 g hg).2) fun k e hx => ?_⟩
  obtain ⟨u, hu⟩ := ps_at hx
  refine ⟨epCells (e, u), ⟨u, rfl, (h5.at_ k _ hu).sl⟩, fun j x hj => ?_⟩
  have hj6 : j < 6 := by have := (List.getElem?_eq_some_iff.1 hj).1; simpa [epCells] using this
  show (ps.flatMap epCells)[k * 6 + j]? = some x
  rw [ep_at ps k _ hu j hj6]; exact hj
end
/-! the marks of a row of edits -/
def mkE (k : Nat) (e : GEdit) : GEdit := ⟨k, (k + 1 : Nat), (k + 2 : Nat), (k + 3 : Nat), marks (k + 4) e.part.length, mtext (k + 4 + 3 * e.part.length)⟩
def mkK (k : Nat) (e : GEdit) : Nat := k + 4 + 3 * e.part.length + 1
def markES : Nat → List GEdit → List GEdit
  | _, [] => []
  | k, e :: es => mkE k e :: markES (mkK k e) es
def markEnd : Nat → List GEdit → Nat
  | k, [] => k
  | k, e :: es => markEnd (mkK k e) es
theorem markES_len (k : Nat) (es : List GEdit) : (markES k es).length = es.length := by
  induction es generalizing k with
  | nil => rfl
  | cons e es ih => simp [markES, ih]
theorem markES_snoc (k : Nat) (es : List GEdit) (e : GEdit) : markES k (es ++ [e]) = markES k es ++ [mkE (markEnd k es) e] := by
  induction es generalizing k with
  | nil => rfl
  | cons x xs ih => simp [markES, markEnd, ih]
theorem markEnd_snoc (k : Nat) (es : List GEdit) (e : GEdit) : markEnd k (es ++ [e]) = mkK (markEnd k es) e := by
  induction es generalizing k with
  | nil => rfl
  | cons x xs ih => simp [markEnd, ih]
theorem markEnd_le (k : Nat) (es : List GEdit) : k ≤ markEnd k es := by
  induction es generalizing k with
  | nil => exact Nat.le_refl _
  | cons x xs ih => have := ih (mkK k x); unfold markEnd; unfold mkK at *; omega
theorem markEnd_take (k : Nat) (es : List GEdit) (n : Nat) (e : GEdit) (h : es[n]? = some e) : markEnd k (es.take (n + 1)) = mkK (markEnd k (es.take n)) e ∧ mkK (markEnd k (es.take n)) e ≤ markEnd k es := by
  have h1 : es.take (n + 1) = es.take n ++ [e] := by rw [List.take_add_one, h]; rfl
  have h2 : markEnd k (es.take (n + 1)) = mkK (markEnd k (es.take n)) e := by rw [h1, markEnd_snoc]
  refine ⟨h2, ?_⟩
  rw [← h2]
  have app : ∀ (a b : List GEdit) (k : Nat), markEnd k (a ++ b) = markEnd (markEnd k a) b := by
    intro a
    induction a with
    | nil => intro b k; rfl
    | cons x xs ih => intro b k; exact ih b (mkK k x)
  have h3 : markEnd k es = markEnd (markEnd k (es.take (n + 1))) (es.drop (n + 1)) := by rw [← app, List.take_append_drop]
  rw [h3]
  exact markEnd_le _ _
theorem markES_at (k : Nat) (es : List GEdit) (n : Nat) (e : GEdit) (h : es[n]? = some e) : (markES k es)[n]? = some (mkE (markEnd k (es.take n)) e) := by
  induction es generalizing k n with
  | nil => simp at h
  | cons x xs ih =>
    cases n with
    | zero => simp at h; subst h; rfl
    | succ n => exact ih (mkK k x) n (by simpa using h)
end Go.Proofs.YtfapnipmgmpgaaaGreatDoor

namespace Go.Proofs.YtfapnipmgmpgaaaGreatDoor
open Go.RowKit

def zE : GEdit := ⟨0, 0, 0, 0, [], ⟨#[]⟩⟩
theorem madeEdits (n : Nat) : (madeCells (Value.agg #[.int .i64 0, .int .i64 0, .int .i64 0, .int .i64 0, .slice none 0 0, .string ⟨#[]⟩]).cells (n * 6)).toList = (List.replicate n ((zE, .slice none 0 0) : GEdit × Value)).flatMap epCells := by
  apply List.ext_getElem?
  intro j
  by_cases hj : j < n * 6
  · have hq : (List.replicate n ((zE, .slice none 0 0) : GEdit × Value))[j / 6]? = some (zE, .slice none 0 0) := by
      rw [List.getElem?_replicate, if_pos (by omega)]
    have hc := ep_at _ _ _ hq (j % 6) (by omega)
    rw [show j / 6 * 6 + j % 6 = j by omega] at hc
    rw [hc]
    have hm : j % 6 = 0 ∨ j % 6 = 1 ∨ j % 6 = 2 ∨ j % 6 = 3 ∨ j % 6 = 4 ∨ j % 6 = 5 := by omega
    have e : (madeCells (Value.agg #[.int .i64 0, .int .i64 0, .int .i64 0, .int .i64 0, .slice none 0 0, .string ⟨#[]⟩]).cells (n * 6)).toList[j]? = some ((#[Value.int .i64 0, .int .i64 0, .int .i64 0, .int .i64 0, .slice none 0 0, .string ⟨#[]⟩] : Array Value).getD (j % 6) undef) := by
      simp [madeCells, hj, Value.cells]
      rcases hm with h | h | h | h | h | h <;> simp [h]
    rw [e]
    rcases hm with h | h | h | h | h | h <;> rw [h] <;> rfl
  · rw [List.getElem?_eq_none (by simp [madeCells]; omega), List.getElem?_eq_none (by rw [ep_len]; simp; omega)]
theorem stored6 {w : World} {base g n cap : Nat} {ps : List (GEdit × Value)} (h : w.ownsRow base 36 6 (.slice (some ⟨g, 0, none⟩) n cap) n (ps.flatMap epCells)) (k : Nat) (p : GEdit × Value) (hk : k < ps.length) :
    ((((((w.setCell ⟨g, k * 6, none⟩ (.int .i64 p.1.kind)).setCell ⟨g, k * 6 + 1, none⟩ (.int .i64 p.1.i)).setCell ⟨g, k * 6 + 2, none⟩ (.int .i64 p.1.j)).setCell ⟨g, k * 6 + 3, none⟩ (.int .i64 p.1.k)).setCell ⟨g, k * 6 + 4, none⟩ p.2).setCell ⟨g, k * 6 + 5, none⟩ (.string p.1.map)).ownsRow base 36 6 (.slice (some ⟨g, 0, none⟩) n cap) n ((ps.set k p).flatMap epCells) ∧
    w.grownBy ((((((w.setCell ⟨g, k * 6, none⟩ (.int .i64 p.1.kind)).setCell ⟨g, k * 6 + 1, none⟩ (.int .i64 p.1.i)).setCell ⟨g, k * 6 + 2, none⟩ (.int .i64 p.1.j)).setCell ⟨g, k * 6 + 3, none⟩ (.int .i64 p.1.k)).setCell ⟨g, k * 6 + 4, none⟩ p.2).setCell ⟨g, k * 6 + 5, none⟩ (.string p.1.map)) (some g) := by
  obtain ⟨h1, g1⟩ := World.ownsRow.stored h (k * 6) (.int .i64 p.1.kind)
  obtain ⟨h2, g2⟩ := World.ownsRow.stored h1 (k * 6 + 1) (.int .i64 p.1.i)
  obtain ⟨h3, g3⟩ := World.ownsRow.stored h2 (k * 6 + 2) (.int .i64 p.1.j)
  obtain ⟨h4, g4⟩ := World.ownsRow.stored h3 (k * 6 + 3) (.int .i64 p.1.k)
  obtain ⟨h5, g5⟩ := World.ownsRow.stored h4 (k * 6 + 4) p.2
  obtain ⟨h6, g6⟩ := World.ownsRow.stored h5 (k * 6 + 5) (.string p.1.map)
  rw [set6 ps k p hk] at h6
  exact ⟨h6, grown_trans (grown_trans (grown_trans (grown_trans (grown_trans g1 g2) g3) g4) g5) g6⟩
theorem fill_at (ps : List (GEdit × Value)) (m : Nat) (z p : GEdit × Value) : (ps ++ List.replicate (m + 1) z).set ps.length p = (ps ++ [p]) ++ List.replicate m z := by
  rw [List.set_append, if_neg (by omega), Nat.sub_self, List.replicate_succ, List.set_cons_zero, List.append_assoc]; rfl
set_option maxRecDepth 100000 in
set_option maxHeartbeats 2000000 in
theorem toEditS_any (v : Value) (es : List GEdit) (w : World) (h : Sl EditE w w.heap.size v es) (hn : es.length ≤ 1048576) (hl : ∀ e ∈ es, e.part.length ≤ 1048576) :
    Calls Tryz.prog 22 #[v] w fun r w' => ∃ v', r = .returned v' ∧ OEds w' w.heap.size w'.heap.size v' es ∧ Below w.heap.size w w' := by
  obtain ⟨A, c, rfl, hc, hm, hrow⟩ := h
  clear hm
  obtain ⟨i0, hi0, hz0, hz1, hz2⟩ := info_parts Tryz.infoEd
  go_enter Tryz.func22, Tryz.ntmps22
  go_wp2_with (at_make; go_must (refine wpList_make_full _ rfl _ _ 47 rfl w.heap.size 36 i0 _ 6 Tryz.underlying47 hi0 hz0 hz1 _ _ _ _ es.length rfl rfl rfl rfl (by rw [hz2]; omega) (by unfold maxLen; omega) (Nat.le_refl _) ?_); intro w1 hown1 hg1; rw [madeEdits] at hown1)
  have hb1 : Below w.heap.size w w1 := (Below.refl _ _).grown hg1 (Nat.le_refl _) (by simp)
  have hlt1 : w.heap.size < w1.heap.size := (World.ownsRow.lt hown1 w.heap.size rfl).2
  have Hown := Lib.hid hown1
  clear hown1 hg1 hi0 hz0 hz1 hz2
  go_loopw [4] (fun i wr => ∃ (k : Nat) (ps : List (GEdit × Value)) (r : Nat → Nat), k ≤ es.length ∧ i = .int .i64 k ∧ Below w.heap.size w wr ∧ w.heap.size < wr.heap.size ∧ Hid (ps.map Prod.fst = es.take k) ∧
    Hid (wr.ownsRow w.heap.size 36 6 (.slice (some ⟨w.heap.size, 0, none⟩) es.length es.length) es.length ((ps ++ List.replicate (es.length - k) ((zE, .slice none 0 0) : GEdit × Value)).flatMap epCells)) ∧ Hid (PartsR wr (.slice (some ⟨w.heap.size, 0, none⟩) es.length es.length) (w.heap.size + 1) wr.heap.size r ps)) (fun i _ => es.length - (intOf i).toNat)
  case atStart => exact ⟨0, [], _, Nat.zero_le _, rfl, hb1, hlt1, rfl, by have := Hown.out; simpa [Hid] using this, PartsR.nil hlt1⟩
  case round =>
    obtain ⟨k, ps, r, hk, rfl, hb, hw, Hps, Hrow, HPR⟩ := hrel
    by_cases hlt : k < es.length
    · obtain ⟨b, o, rfl, hbl, hcell⟩ := hrow.edit (fun _ h => h) hlt
      obtain ⟨e, he⟩ : ∃ e, es[k]? = some e := ⟨_, List.getElem?_eq_getElem hlt⟩
      obtain ⟨vR, hec, hR⟩ := hcell k e he
      have hec2 := hec.up hb
      have HR2 := Lib.hid (hR.up hb)
      have hle := hl e (List.mem_of_getElem? he)
      have He := Lib.hid he
      obtain ⟨c0, c1, c2, c3, c4, c5, cl⟩ := hec2
      have hi : (k : Int) < (es.length : Int) := by omega
      have HB := Lib.hid hb
      have hsz := hb.size
      clear hcell he hec hR hb
      go_wp2_with fail
      refine (toEditO_any _ e _ ⟨_, rfl, HR2.out⟩ hle).mono ?_
      rintro r5 w2 ⟨vN, rfl, own2, hb2⟩
      obtain ⟨AN, cN, rfl, _⟩ := own_nil own2
      have hrow2 := ownsRow_below Hrow.out hb2
      have hsz2 := hb2.size
      have hpl : ps.length = k := by
        have := congrArg List.length Hps.out
        simpa [Nat.min_eq_left hk] using this
      have hfl : (ps ++ List.replicate (es.length - k) ((zE, .slice none 0 0) : GEdit × Value)).length = es.length := by simp [hpl]; omega
      have hx : ∀ j, j < 6 → ∃ u, w2.cell? ⟨w.heap.size, k * 6 + j, none⟩ = some u := fun j hj =>
        ⟨_, (hrow2.cellAt (k * 6 + j) (by omega)).trans (List.getElem?_eq_getElem (by rw [hrow2.1]; omega))⟩
      obtain ⟨u0, hu0⟩ := hx 0 (by omega)
      obtain ⟨u1, hu1⟩ := hx 1 (by omega)
      obtain ⟨u2, hu2⟩ := hx 2 (by omega)
      obtain ⟨u3, hu3⟩ := hx 3 (by omega)
      obtain ⟨u4, hu4⟩ := hx 4 (by omega)
      obtain ⟨u5, hu5⟩ := hx 5 (by omega)
      have hf := fun j => hrow2.frozenAt (k * 6 + j)
      have hf0 := hf 0
      have hf1 := hf 1
      have hf2 := hf 2
      have hf3 := hf 3
      have hf4 := hf 4
      have hf5 := hf 5
      rw [Nat.add_zero] at hu0 hf0
      have hst := stored6 hrow2 k (e, .slice AN e.part.length cN) (by omega)
      have hset : (ps ++ List.replicate (es.length - k) ((zE, .slice none 0 0) : GEdit × Value)).set k (e, .slice AN e.part.length cN) = (ps ++ [(e, .slice AN e.part.length cN)]) ++ List.replicate (es.length - (k + 1)) (zE, .slice none 0 0) := by
        rw [show es.length - k = (es.length - (k + 1)) + 1 by omega, ← hpl]; exact fill_at _ _ _ _
      rw [hset] at hst
      have Hst := Lib.hid hst
      have HB3 := Lib.hid (HB.out.trans (hb2.mono hsz))
      have Hb2 := Lib.hid hb2
      have Hown2 := Lib.hid own2
      have Hpl := Lib.hid hpl
      clear hrow2 hst hset hfl hb2 own2 hx hf hpl c0 c1 c2 c3 c4 c5
      go_wp2
      go_roundw
      case rel =>
        have hg := Hst.out.2
        have hpk : PartsR _ (.slice (some ⟨w.heap.size, 0, none⟩) es.length es.length) (w.heap.size + 1) wr.heap.size r ps := HPR.out.keep (fun g a b _ => (hg.block g (by omega) (fun e => by simp at e; omega)).trans (Hb2.out.block g b)) (Nat.le_trans hsz2 hg.size)
        obtain ⟨r', hr'⟩ := hpk.snoc (q := (e, .slice AN e.part.length cN)) (hi' := w2.heap.size) ⟨.inr ⟨own_keep Hown2.out fun g hgg => hg.block g (World.ownsRow.lt Hown2.out g hgg).2 (fun e => by have := (World.ownsRow.lt Hown2.out g hgg).1; simp at e; omega), fun g hgg => (World.ownsRow.lt Hown2.out g hgg).2, hg.size⟩, fun g hgg => by simp [Value.ownBlock] at hgg; omega⟩ hsz2 (by omega)
        refine ⟨k + 1, ps ++ [(e, .slice AN e.part.length cN)], r', by omega, by go_num, ?_, ?_, ?_, Lib.hid Hst.out.1, Lib.hid (hr'.le (Nat.le_refl _) hg.size)⟩
        · exact ((((((HB3.out.setCell (Nat.le_refl _) _).setCell (Nat.le_refl _) _).setCell (Nat.le_refl _) _).setCell (Nat.le_refl _) _).setCell (Nat.le_refl _) _).setCell (Nat.le_refl _) _)
        · have := hg.size; omega
        · show List.map Prod.fst (ps ++ [(e, Value.slice AN e.part.length cN)]) = es.take (k + 1)
          rw [List.map_append, Hps.out, List.take_add_one, He.out]; rfl
      case measure => simp [intOf]; omega
    · have hkn : k = es.length := by omega
      subst hkn
      go_wp2
      go_ret
      have hrow := Hrow.out
      rw [Nat.sub_self, List.replicate_zero, List.append_nil] at hrow
      refine ⟨_, rfl, ⟨ps, r, ?_, hrow, fun g hg => by simp [Value.ownBlock] at hg; omega, Nat.le_refl _, HPR.out.le (by omega) (Nat.le_refl _)⟩, hb⟩
      have := Hps.out
      rwa [List.take_length] at this
end Go.Proofs.YtfapnipmgmpgaaaGreatDoor

namespace Go.Proofs.YtfapnipmgmpgaaaGreatDoor
open Go.RowKit

set_option maxRecDepth 100000 in
theorem markRuleS_nil (A : Option Addr) (c k : Nat) (w : World) :
    Calls Tryz.prog 46 #[.slice A 0 c, .int .i64 k] w fun r w' => r = .returned (.int .i64 k) ∧ w' = w := by
  go_enter Tryz.func46, Tryz.ntmps46
  go_wp2_with fail
  go_loopw [1, 5] (fun q i wr => q = .int .i64 k ∧ i = .int .i64 0 ∧ wr = w) (fun _ _ _ => 0)
  case atStart => exact ⟨rfl, rfl, rfl⟩
  case round =>
    obtain ⟨rfl, rfl, rfl⟩ := hrel
    go_wp2
    go_ret
    exact ⟨rfl, rfl⟩
theorem markPart (v : Value) (a b : Nat) (e : GEdit) (u : Value) (k : Nat) (q : Int) (w : World) (h : PartAt w v a b (e, u)) (hn : e.part.length ≤ 1099511627776) (hk : k ≤ 1099511627776) (hq : q = k) :
    Calls Tryz.prog 46 #[u, .int .i64 q] w fun r w' => r = .returned (.int .i64 ((k + 3 * e.part.length : Nat) : Int)) ∧ (∀ e' : GEdit, e'.part = marks k e.part.length → PartAt w' v a b (e', u)) ∧ Chg a b w w' := by
  subst hq
  obtain ⟨h1, h2⟩ := h
  rcases h1 with ⟨h3, A, c, h4, h5⟩ | h3
  · simp only at h3 h4
    subst h4
    refine (markRuleS_nil A c k w).mono ?_
    rintro r w' ⟨rfl, rfl⟩
    rw [h3]
    exact ⟨rfl, fun e' he => ⟨.inl ⟨he, A, c, rfl, h5⟩, h2⟩, Chg.refl _ _ _⟩
  · refine (markRuleS_any a u e.part k w h3.1 hn hk).mono ?_
    rintro r w' ⟨rfl, hm, hg⟩
    exact ⟨rfl, fun e' he => ⟨.inr (by rw [he]; exact h3.markedC hm (chg_of h3 hg)), h2⟩, chg_of h3 hg⟩
theorem heldPart (u : Value) (k m : Nat) (q : Int) (w : World) (h : Sl RuleE w w.heap.size u (marks k m)) (hn : m ≤ 1099511627776) (hk : k ≤ 1099511627776) (hq : q = k) :
    Calls Tryz.prog 47 #[u, .int .i64 q] w fun e w' => e = .returned (.int .i64 ((k + 3 * m : Nat) : Int)) ∧ Below w.heap.size w w' := by
  subst hq; exact heldRuleS_any u k m w h hn hk
theorem marks_set (k : Nat) (es : List GEdit) (n : Nat) (e : GEdit) (h : es[n]? = some e) : (markES k (es.take n) ++ es.drop n).set n (mkE (markEnd k (es.take n)) e) = markES k (es.take (n + 1)) ++ es.drop (n + 1) := by
  obtain ⟨hn, rfl⟩ := List.getElem?_eq_some_iff.1 h
  have hl : (markES k (es.take n)).length = n := by rw [markES_len, List.length_take]; omega
  rw [List.set_append, if_neg (by omega), hl, Nat.sub_self, List.drop_eq_getElem_cons hn, List.set_cons_zero, List.take_add_one, h, Option.toList_some, markES_snoc, List.append_assoc]; rfl
set_option maxRecDepth 100000 in
set_option maxHeartbeats 2000000 in
theorem markEditS_any (lo hi : Nat) (v : Value) (es : List GEdit) (k : Nat) (w : World) (h : OEds w lo hi v es) (hk : markEnd k es ≤ 1099511627776) (hn : es.length ≤ 1099511627776) :
    Calls Tryz.prog 25 #[v, .int .i64 k] w fun r w' => r = .returned (.int .i64 (markEnd k es : Nat)) ∧ OEds w' lo hi v (markES k es) ∧ Chg lo hi w w' := by
  have Hown := Lib.hid h
  obtain ⟨_, _, _, h2, _⟩ := h
  obtain ⟨A, cap, rfl, _⟩ := own_nil h2
  clear h2
  go_enter Tryz.func25, Tryz.ntmps25
  go_wp2_with fail
  go_loopw [1, 5] (fun q i wr => ∃ n : Nat, n ≤ es.length ∧ q = .int .i64 (markEnd k (es.take n) : Nat) ∧ i = .int .i64 n ∧ Hid (OEds wr lo hi (.slice A es.length cap) (markES k (es.take n) ++ es.drop n)) ∧ Chg lo hi w wr) (fun _ i _ => es.length - (intOf i).toNat)
  case atStart => exact ⟨0, Nat.zero_le _, rfl, rfl, by simpa [markES, Hid] using Hown.out, Chg.refl _ _ _⟩
  case round =>
    obtain ⟨n, hnl, rfl, rfl, HO, hcg⟩ := hrel
    by_cases hlt : n < es.length
    · obtain ⟨ps, r, hps, hrow, hhi, hsz, hP⟩ := HO.out
      obtain ⟨e, he⟩ : ∃ e, es[n]? = some e := ⟨_, List.getElem?_eq_getElem hlt⟩
      have hll : (markES k (es.take n) ++ es.drop n).length = es.length := by rw [List.length_append, markES_len, List.length_take, List.length_drop]; omega
      have hcur : (markES k (es.take n) ++ es.drop n)[n]? = some e := by
        have hl : (markES k (es.take n)).length = n := by rw [markES_len, List.length_take]; omega
        rw [List.getElem?_append_right (by omega), hl, Nat.sub_self, List.getElem?_drop, Nat.add_zero, he]
      obtain ⟨u, hu⟩ := ps_at (by rw [hps]; exact hcur)
      rw [hll] at hrow
      obtain ⟨g, cap', hv, hgb, hgl, _, _⟩ := own_form hrow (by omega)
      injection hv with hv1 hv2 hv3
      subst hv1 hv3
      obtain ⟨htk, hle⟩ := markEnd_take k es n e he
      have hset := marks_set k es n e he
      obtain ⟨m, hm⟩ : ∃ m, markEnd k (es.take n) = m := ⟨_, rfl⟩
      rw [hm] at htk hle hset ⊢
      have hpl : n < ps.length := (List.getElem?_eq_some_iff.1 hu).1
      have hmk : m + 4 + 3 * e.part.length + 1 ≤ 1099511627776 := by unfold mkK at hle; omega
      have hPn := hP.at_ n _ hu
      have hhb := hP.high (2 * n + 1)
      obtain ⟨a, ha⟩ : ∃ a, r (2 * n) = a := ⟨_, rfl⟩
      obtain ⟨b, hb⟩ : ∃ b, r (2 * n + 1) = b := ⟨_, rfl⟩
      rw [ha, hb] at hPn
      rw [hb] at hhb
      have hrg := hPn.2 g rfl
      have hx : ∀ j, j < 6 → ∃ x, wr.cell? ⟨g, n * 6 + j, none⟩ = some x := fun j hj =>
        ⟨_, (hrow.cellAt (n * 6 + j) (by omega)).trans (List.getElem?_eq_getElem (by rw [hrow.1]; omega))⟩
      obtain ⟨u0, hu0⟩ := hx 0 (by omega)
      obtain ⟨u1, hu1⟩ := hx 1 (by omega)
      obtain ⟨u2, hu2⟩ := hx 2 (by omega)
      obtain ⟨u3, hu3⟩ := hx 3 (by omega)
      have hu4 : wr.cell? ⟨g, n * 6 + 4, none⟩ = some u := by rw [hrow.cellAt (n * 6 + 4) (by omega), ep_at ps n _ hu 4 (by omega)]; rfl
      have hf := fun j => hrow.frozenAt (n * 6 + j)
      have hf0 := hf 0
      have hf1 := hf 1
      have hf2 := hf 2
      have hf3 := hf 3
      have hf4 := hf 4
      rw [Nat.add_zero] at hu0 hf0
      obtain ⟨h1, g1⟩ := World.ownsRow.stored hrow (n * 6) (.int .i64 m)
      obtain ⟨h2, g2⟩ := World.ownsRow.stored h1 (n * 6 + 1) (.int .i64 ((m : Int) + 1))
      obtain ⟨h3, g3⟩ := World.ownsRow.stored h2 (n * 6 + 2) (.int .i64 ((m : Int) + 1 + 1))
      obtain ⟨h4, g4⟩ := World.ownsRow.stored h3 (n * 6 + 3) (.int .i64 ((m : Int) + 1 + 1 + 1))
      have G4 := Lib.hid (grown_trans (grown_trans (grown_trans g1 g2) g3) g4)
      have R4 := Lib.hid h4
      have P4 := Lib.hid (hPn.row rfl (by omega) G4.out)
      have HP := Lib.hid hP
      have Hu := Lib.hid hu
      have He := Lib.hid he
      have Hps := Lib.hid hps
      have Hset := Lib.hid hset
      have Htk := Lib.hid htk
      have Hm := Lib.hid hm
      have Ha := Lib.hid ha
      have Hb := Lib.hid hb
      have Hhi := Lib.hid hhi
      have hi' : (n : Int) < (es.length : Int) := by omega
      clear h1 h2 h3 h4 g1 g2 g3 g4 hP hPn hu he hps hset htk hm ha hb hhi hcur hll hf hx hrow
      go_wp2_with fail
      refine (markPart _ a b e u (m + 4) _ _ P4.out (by omega) (by omega) (by omega)).mono ?_
      rintro r5 w2 ⟨rfl, hp2, hc2⟩
      have hl4 := (World.ownsRow.lt R4.out g rfl).2
      have R2 := own_keep R4.out (fun g' hg' => by
        have e9 : g = g' := by simpa [Value.ownBlock] using hg'
        subst e9
        exact hc2.block g hl4 hrg)
      have HC2 := Lib.hid hc2
      have HP2 := Lib.hid hp2
      have HR2 := Lib.hid R2
      clear hc2 hp2 R2 hu0 hu1 hu2 hu3 hu4 hf0 hf1 hf2 hf3 hf4
      go_wp2_with fail
      refine (markText_int (m + 4 + 3 * e.part.length) _ _ (by omega) (by omega)).mono ?_
      rintro r6 w3 ⟨rfl, hb3⟩
      have R3 := ownsRow_below HR2.out hb3
      obtain ⟨u5, hu5⟩ : ∃ x, w3.cell? ⟨g, n * 6 + 5, none⟩ = some x := ⟨_, (R3.cellAt (n * 6 + 5) (by omega)).trans (List.getElem?_eq_getElem (by rw [R3.1]; omega))⟩
      have hf5 := R3.frozenAt (n * 6 + 5)
      obtain ⟨h6, g6⟩ := World.ownsRow.stored R3 (n * 6 + 5) (.string (mtext (m + 4 + 3 * e.part.length)))
      have hs := set5 ps n (mkE m e, u) (e, u) Hu.out rfl
      simp only [mkE] at hs
      rw [show ((m + 1 : Nat) : Int) = (m : Int) + 1 by omega, show ((m + 2 : Nat) : Int) = (m : Int) + 1 + 1 by omega, show ((m + 3 : Nat) : Int) = (m : Int) + 1 + 1 + 1 by omega] at hs
      rw [hs] at h6
      have H6 := Lib.hid h6
      have G6 := Lib.hid g6
      have HB3 := Lib.hid hb3
      clear h6 g6 hs R3 hb3
      go_wp2_with fail
      go_roundw
      case rel =>
        have hE : (⟨(m : Int), (m : Int) + 1, (m : Int) + 1 + 1, (m : Int) + 1 + 1 + 1, marks (m + 4) e.part.length, mtext (m + 4 + 3 * e.part.length)⟩ : GEdit) = mkE m e := by
          unfold mkE
          rw [show ((m + 1 : Nat) : Int) = (m : Int) + 1 by omega, show ((m + 2 : Nat) : Int) = (m : Int) + 1 + 1 by omega, show ((m + 3 : Nat) : Int) = (m : Int) + 1 + 1 + 1 by omega]
        have s4 := G4.out.size
        have s2 := HC2.out.size
        have s3 := HB3.out.size
        have s6 := G6.out.size
        have hblk : ∀ x, x < wr.heap.size → x ≠ g → x < a ∨ b ≤ x → (w3.setCell ⟨g, n * 6 + 5, none⟩ (.string (mtext (m + 4 + 3 * e.part.length)))).heap[x]? = wr.heap[x]? := fun x hx hne hr =>
          (G6.out.block x (by omega) (fun e => hne (by simpa using e))).trans ((HB3.out.block x (by omega)).trans ((HC2.out.block x (by omega) hr).trans (G4.out.block x hx (fun e => hne (by simpa using e)))))
        have hPq : PartAt (w3.setCell ⟨g, n * 6 + 5, none⟩ (.string (mtext (m + 4 + 3 * e.part.length)))) (.slice (some ⟨g, 0, none⟩) es.length cap) a b (mkE m e, u) :=
          ((HP2.out (mkE m e) rfl).keep (fun x h1 h2 => HB3.out.block x (by omega)) s3).keep (fun x h1 h2 => G6.out.block x (by omega) (fun e => by simp at e; omega)) s6
        refine ⟨n + 1, by omega, ?_, by go_num, Lib.hid ⟨ps.set n (mkE m e, u), r, ?_, ?_, Hhi.out, by omega, ?_⟩, ?_⟩
        · rw [Htk.out]; unfold mkK; congr 1
        · rw [List.map_set, Hps.out, Hset.out]
        · have hl2 : (markES k (es.take (n + 1)) ++ es.drop (n + 1)).length = es.length := by rw [List.length_append, markES_len, List.length_take, List.length_drop]; omega
          rw [hl2, ← hE]; exact H6.out
        · refine HP.out.mark n _ (by rw [Ha.out, Hb.out]; exact hPq) (fun x hx hne hr => hblk x hx (fun e => hne (by rw [e]; rfl)) (by rw [Ha.out, Hb.out] at hr; exact hr)) (by omega)
        · refine hcg.trans ⟨?_, ?_, ?_, by omega, fun x hx hr => hblk x hx (by have := Hhi.out g rfl; omega) (by have := HP.out.mono 0 (2 * n) (Nat.zero_le _); have := HP.out.low; have := Ha.out; omega)⟩
          · exact G6.out.os.trans (HB3.out.os.trans (HC2.out.os.trans G4.out.os))
          · exact G6.out.tape.trans (HB3.out.tape.trans (HC2.out.tape.trans G4.out.tape))
          · exact G6.out.output.trans (HB3.out.output.trans (HC2.out.output.trans G4.out.output))
      case measure => simp [intOf]; omega
    · have hkn : n = es.length := by omega
      subst hkn
      go_wp2
      go_ret
      exact ⟨by simp, by have := HO.out; rwa [List.take_length, List.drop_length, List.append_nil] at this, hcg⟩
end Go.Proofs.YtfapnipmgmpgaaaGreatDoor

namespace Go.Proofs.YtfapnipmgmpgaaaGreatDoor
open Go.RowKit

set_option maxRecDepth 100000 in
set_option maxHeartbeats 2000000 in
theorem heldEditS_any (v : Value) (es : List GEdit) (k : Nat) (w : World) (h : Sl EditE w w.heap.size v (markES k es)) (hk : markEnd k es ≤ 1099511627776) (hn : es.length ≤ 1099511627776) :
    Calls Tryz.prog 28 #[v, .int .i64 k] w fun r w' => r = .returned (.int .i64 (markEnd k es : Nat)) ∧ Below w.heap.size w w' := by
  obtain ⟨A, c, rfl, hc, hm, hrow⟩ := h
  rw [markES_len] at hc
  rw [markES_len]
  clear hm
  go_enter Tryz.func28, Tryz.ntmps28
  go_wp2_with fail
  go_loopw [1, 5] (fun q i wr => ∃ n : Nat, n ≤ es.length ∧ q = .int .i64 (markEnd k (es.take n) : Nat) ∧ i = .int .i64 n ∧ Below w.heap.size w wr) (fun _ i _ => es.length - (intOf i).toNat)
  case atStart => exact ⟨0, Nat.zero_le _, rfl, rfl, Below.refl _ _⟩
  case round =>
    obtain ⟨n, hnl, rfl, rfl, hb⟩ := hrel
    by_cases hlt : n < es.length
    · obtain ⟨b, o, rfl, hbl, hcell⟩ := hrow.edit (fun _ h => h) (k := n) (by rw [markES_len]; exact hlt)
      obtain ⟨e, he⟩ : ∃ e, es[n]? = some e := ⟨_, List.getElem?_eq_getElem hlt⟩
      obtain ⟨vR, hec, hR⟩ := hcell n _ (markES_at k es n e he)
      obtain ⟨htk, hle⟩ := markEnd_take k es n e he
      obtain ⟨m, hm⟩ : ∃ m, markEnd k (es.take n) = m := ⟨_, rfl⟩
      rw [hm] at htk hle hec hR ⊢
      have hmk : m + 4 + 3 * e.part.length + 1 ≤ 1099511627776 := by unfold mkK at hle; omega
      obtain ⟨c0, c1, c2, c3, c4, c5, cl⟩ := hec.up hb
      simp only [mkE] at c0 c1 c2 c3 c5
      rw [show ((m + 1 : Nat) : Int) = (m : Int) + 1 by omega] at c1
      rw [show ((m + 2 : Nat) : Int) = (m : Int) + 1 + 1 by omega] at c2
      rw [show ((m + 3 : Nat) : Int) = (m : Int) + 1 + 1 + 1 by omega] at c3
      have HR := Lib.hid (hR.up hb)
      have Htk := Lib.hid htk
      have HB := Lib.hid hb
      have hsz := hb.size
      have hi' : (n : Int) < (es.length : Int) := by omega
      clear hcell he hec hR htk hm hb hle
      go_wp2_with fail
      refine (heldPart vR (m + 4) e.part.length _ _ HR.out (by omega) (by omega) (by omega)).mono ?_
      rintro r5 w2 ⟨rfl, hb2⟩
      have d5 := (hb2.cell (p := ⟨b, o + n * 6 + 5, none⟩) cl).trans c5
      have dl : b < w2.heap.size := Nat.lt_of_lt_of_le cl hb2.size
      have HB2 := Lib.hid (HB.out.trans (hb2.mono hsz))
      have hsz2 := HB2.out.size
      have e0 : (decide (((m + 4 + 3 * e.part.length : Nat) : Int) < 0)) = false := by simp; omega
      clear c0 c1 c2 c3 c4 c5 hb2
      go_wp2_with fail
      go_region_held3 (fun w' => Below w2.heap.size w2 w' ∧ w'.cell? ⟨b, o + n * 6 + 5, none⟩ = some (.string (mtext (m + 4 + 3 * e.part.length)))) (first | exact ⟨(Below.refl _ _).drew, d5⟩ | (exact keepB (by assumption) hb3 dl))
        (first | (go_at_call 53; refine (markText_int (m + 4 + 3 * e.part.length) _ _ (by omega) (by omega)).mono ?_; rintro r6 w3 ⟨rfl, hb3⟩))
      have HB3 := Lib.hid (HB2.out.trans (((Below.refl _ _).drew.trans hb3).mono hsz2))
      clear hb3 d5
      go_wp2
      go_roundw
      case rel => exact ⟨n + 1, by omega, by rw [Htk.out]; unfold mkK; congr 1, by go_num, HB3.out⟩
      case measure => simp [intOf]; omega
    · have hkn : n = es.length := by omega
      subst hkn
      go_wp2
      go_ret
      exact ⟨by simp, hb⟩
end Go.Proofs.YtfapnipmgmpgaaaGreatDoor

namespace Go.Proofs.YtfapnipmgmpgaaaGreatDoor
open Go.RowKit

/-- What an element of a new row of edits may hold. -/
def NilP (e : GEdit) (u : Value) : Prop := e.part = [] ∧ ∃ A c, u = .slice A 0 c ∧ c ≤ maxLen
theorem oeds_zero {W : World} {lo : Nat} (h : lo ≤ W.heap.size) : OEds W lo W.heap.size (.slice none 0 0) [] :=
  ⟨[], _, rfl, World.ownsRow_nil _ _ _ _, fun _ h => (by simp [Value.ownBlock] at h), Nat.le_refl _, PartsR.nil h⟩
theorem oeds_empty {W : World} {lo N : Nat} (hN : N = W.heap.size) (h : lo ≤ W.heap.size) : OEds (W.alloc (Obj.cells #[] 36)) lo (W.heap.size + 1) (.slice (some ⟨N, 0, none⟩) 0 0) [] := by
  subst hN
  exact ⟨[], _, rfl, World.ownsRow_lit W #[] 0 h (Nat.zero_le _) rfl, fun g hg => by simp [Value.ownBlock] at hg; omega, by simp, PartsR.nil (by omega)⟩
theorem oeds_one {W : World} {lo N : Nat} {e : GEdit} {u : Value} (hN : N = W.heap.size) (h : lo ≤ W.heap.size) (hu : NilP e u ∨ OwnR W lo W.heap.size u e.part) :
    OEds (W.alloc (Obj.cells #[.int .i64 e.kind, .int .i64 e.i, .int .i64 e.j, .int .i64 e.k, u, .string e.map] 36)) lo (W.heap.size + 1) (.slice (some ⟨N, 0, none⟩) 1 1) [e] := by
  subst hN
  have hrow := World.ownsRow_lit (e := 36) (size := 6) W #[.int .i64 e.kind, .int .i64 e.i, .int .i64 e.j, .int .i64 e.k, u, .string e.map] 1 h (by decide) rfl
  refine ⟨[(e, u)], fun j => if j = 0 then lo else W.heap.size, rfl, hrow, fun g hg => by simp [Value.ownBlock] at hg; omega, by simp, Nat.le_refl _, ?_, ?_, ?_⟩
  · intro i j hij
    show (if i = 0 then lo else W.heap.size) ≤ (if j = 0 then lo else W.heap.size)
    repeat' split
    all_goals omega
  · intro i
    show (if i = 0 then lo else W.heap.size) ≤ W.heap.size + 1
    split <;> omega
  · intro i p hp
    have hi : i = 0 := by
      have := (List.getElem?_eq_some_iff.1 hp).1
      simp at this; exact this
    subst hi
    simp at hp
    subst hp
    refine ⟨?_, fun g hg => by simp [Value.ownBlock] at hg; simp; omega⟩
    rcases hu with hu | hu
    · exact .inl hu
    · exact .inr (by simpa using hu.alloc _)
/-- A row of edits and what is known of its parts. -/
def OEdP (w : World) (lo hp : Nat) (v : Value) (es : List GEdit) : Prop :=
  ∃ ps r, ps.map Prod.fst = es ∧ w.ownsRow lo 36 6 v es.length (ps.flatMap epCells) ∧ PartsR w v lo hp r ps
theorem OEdP.oeds {w : World} {lo hp : Nat} {v : Value} {es : List GEdit} (h : OEdP w lo hp v es) (hh : hp ≤ w.heap.size) : OEds w lo w.heap.size v es := by
  obtain ⟨ps, r, h1, h2, h3⟩ := h
  exact ⟨ps, r, h1, h2, fun g hg => (World.ownsRow.lt h2 g hg).2, Nat.le_refl _, h3.le (Nat.le_refl _) hh⟩
theorem oedp_empty {W : World} {lo N : Nat} (hN : N = W.heap.size) (h : lo ≤ W.heap.size) : OEdP (W.alloc (Obj.cells #[] 36)) lo lo (.slice (some ⟨N, 0, none⟩) 0 0) [] := by
  subst hN
  exact ⟨[], _, rfl, World.ownsRow_lit W #[] 0 h (Nat.zero_le _) rfl, PartsR.nil (Nat.le_refl _)⟩
theorem OEdP.keep {w w' : World} {lo hp : Nat} {v : Value} {es : List GEdit} (h : OEdP w lo hp v es) (hb : Below w.heap.size w w') (hh : hp ≤ w.heap.size) : OEdP w' lo hp v es := by
  obtain ⟨ps, r, h1, h2, h3⟩ := h
  exact ⟨ps, r, h1, ownsRow_below h2 hb, h3.keep (fun g _ b _ => hb.block g (by omega)) hb.size⟩
theorem PartsR.reval {w : World} {v v' : Value} {lo hi N : Nat} {r : Nat → Nat} {ps : List (GEdit × Value)} (h : PartsR w v lo hi r ps) (hv : v'.ownBlock = v.ownBlock ∨ v'.ownBlock = some N) (hN : hi ≤ N) : PartsR w v' lo hi r ps :=
  ⟨h.low, h.mono, h.high, fun i p hp => by
    obtain ⟨h1, h2⟩ := h.at_ i p hp
    refine ⟨h1, fun g hg => ?_⟩
    rcases hv with hv | hv
    · exact h2 g (hv.symm.trans hg)
    · have : g = N := by rw [hv] at hg; exact (Option.some.inj hg).symm
      have := h.high (2 * i + 1)
      omega⟩
/-- 'append(s, x)' of one edit. -/
theorem push_edit {W : World} {ops : Array Oper} {rest : List Oper} {o : Oper} {a : Act} {Q : Exit → Act → World → Prop} (hgd : o.guard = none) (s x : Operand)
    (ho : o.op = .call { callee := .builtin .append, args := #[s, x], argTypes := #[47, 47] }) {e : GEdit} {u : Value} {lo hp pa pb : Nat} {v : Value} {es : List GEdit}
    (hs : a.eval s = v) {N : Nat} (hx : a.eval x = .slice (some ⟨N, 0, none⟩) 1 1) (hN : N = W.heap.size) (hown : OEdP W lo hp v es) (hlen : es.length ≤ 1048576) (hbase : lo ≤ W.heap.size)
    (hu1 : u.oneCell' = true) (hu : PartAt W v pa pb (e, u)) (h1 : hp ≤ pa) (h2 : pa ≤ pb) (h3 : pb ≤ W.heap.size) (h4 : lo ≤ pa)
    (h : ∀ g' c' w', OEdP w' lo pb (.slice (some ⟨g', 0, none⟩) (es.length + 1) c') (es ++ [e]) → (v.ownBlock = some g' ∨ g' = W.heap.size + 1) → W.grownBy w' v.ownBlock → Below lo W w' → wpList Tryz.prog ops Q rest (a.put o.dst (.slice (some ⟨g', 0, none⟩) (es.length + 1) c')) w') :
    wpList Tryz.prog ops Q (o :: rest) a (W.alloc (.cells #[.int .i64 e.kind, .int .i64 e.i, .int .i64 e.j, .int .i64 e.k, u, .string e.map] 36)) := by
  subst hN
  obtain ⟨ps, r, hm, hrow, hP⟩ := hown
  obtain ⟨i0, hi0, hz0, hz1, hz2⟩ := info_parts Tryz.infoEd
  refine wpList_push2 hgd s x 47 ho i0 _ 6 72 Tryz.underlying47 hi0 hz0 hz1 hz2 rfl (by decide) hs hx rfl (by simp [Value.oneCell'] at hu1 ⊢; exact hu1) hrow (by omega) (by omega) hbase ?_
  intro v' w' k1 k2 k3
  have hg : W.grownBy w' v.ownBlock := ⟨k2.os, k2.tape, k2.output, Nat.le_trans (by simp) k2.size, fun y hy hne => (k2.block y (by simp; omega) hne).trans (Below.heap_alloc W _ y hy)⟩
  have hb : Below lo W w' := (Below.refl lo W).grown hg hbase (fun y hy => (World.ownsRow.lt hrow y hy).1)
  have k1' : w'.ownsRow lo 36 6 v' (es.length + 1) ((ps ++ [(e, u)]).flatMap epCells) := by simpa [epCells] using k1
  obtain ⟨g', c', rfl, _⟩ := own_form k1' (by omega)
  refine h g' c' w' ?_ (k3.imp (fun q => q.symm.trans rfl) (fun q => by simpa [Value.ownBlock] using q)) hg hb
  obtain ⟨r', hr'⟩ := (hP.le (Nat.le_refl _) h1).snoc hu h2 h4
  refine ⟨ps ++ [(e, u)], r', by rw [List.map_append, hm]; rfl, by simpa using k1', ?_⟩
  refine PartsR.reval (v := v) (N := W.heap.size + 1) (hr'.keep (fun y _ hy hne => hg.block y (by omega) (fun e => hne e.symm)) hg.size) k3 (by omega)
/-- 'append(s, x)' of one edit in a region that draws its order. -/
theorem step_push_edit (W : World) {W' : World} {e : GEdit} {u : Value} (hW : W' = W.alloc (.cells #[.int .i64 e.kind, .int .i64 e.i, .int .i64 e.j, .int .i64 e.k, u, .string e.map] 36))
    {ops : Array Oper} {o : Oper} {a : Act} {K : Act → World → Prop} {Q : Exit → Act → World → Prop} {E : Prop} (hgd : o.guard = none) (s x : Operand)
    (ho : o.op = .call { callee := .builtin .append, args := #[s, x], argTypes := #[47, 47] }) {lo hp pa pb : Nat} {v : Value} {es : List GEdit}
    (hs : a.eval s = v) {N : Nat} (hx : a.eval x = .slice (some ⟨N, 0, none⟩) 1 1) (hN : N = W.heap.size) (hown : OEdP W lo hp v es) (hlen : es.length ≤ 1048576) (hbase : lo ≤ W.heap.size)
    (hu1 : u.oneCell' = true) (hu : PartAt W v pa pb (e, u)) (h1 : hp ≤ pa) (h2 : pa ≤ pb) (h3 : pb ≤ W.heap.size) (h4 : lo ≤ pa)
    (h : ∀ g' c' w', OEdP w' lo pb (.slice (some ⟨g', 0, none⟩) (es.length + 1) c') (es ++ [e]) → (v.ownBlock = some g' ∨ g' = W.heap.size + 1) → W.grownBy w' v.ownBlock → Below lo W w' → K (a.put o.dst (.slice (some ⟨g', 0, none⟩) (es.length + 1) c')) w') :
    if Region.wanted o (yielded ops a.tmps) = true then Oper.wp Tryz.prog o a W' K Q else E := by
  subst hW
  subst hN
  have hw : Region.wanted o (yielded ops a.tmps) = true := by simp [Region.wanted, hgd]
  rw [if_pos hw]
  obtain ⟨ps, r, hm, hrow, hP⟩ := hown
  obtain ⟨i0, hi0, hz0, hz1, hz2⟩ := info_parts Tryz.infoEd
  obtain ⟨v', w', hrun, k1, k2, _, k3⟩ := run_append_own_at (P := Tryz.prog) (W.alloc (.cells #[.int .i64 e.kind, .int .i64 e.i, .int .i64 e.j, .int .i64 e.k, u, .string e.map] 36)) lo 47 o.type 36 i0 _ 6 72 Tryz.underlying47 hi0 hz0 hz1 hz2 rfl (by decide) v es.length _ (World.ownsRow.alloc hrow _) ⟨W.heap.size, 0, none⟩ 1 1 (epCells (e, u)) rfl
    (fun j y hy => by
      have : (W.alloc (.cells #[.int .i64 e.kind, .int .i64 e.i, .int .i64 e.j, .int .i64 e.k, u, .string e.map] 36)).cell? ⟨W.heap.size, j, none⟩ = (#[Value.int .i64 e.kind, .int .i64 e.i, .int .i64 e.j, .int .i64 e.k, u, .string e.map] : Array Value)[j]? := cell_of_row _ _ _ _ 36 (0, 0) (heap_alloc_new W _)
      have ha : (⟨W.heap.size, 0, none⟩ : Addr).add j = ⟨W.heap.size, j, none⟩ := by unfold Addr.add; split <;> simp_all
      rw [ha, this]; simpa [epCells] using hy) (by simp [epCells, Value.oneCell'] at hu1 ⊢; exact hu1) (by simp only [maxLen]; omega) (by omega) (by simp; omega)
  unfold Oper.wp execOp
  simp only [ho, resolve, invoke, builtin, Sem.run_bind, Sem.run_pure, Result.andThen_ok, List.map_toArray, List.map_cons, List.map_nil, hs, hx, hrun]
  have hg : W.grownBy w' v.ownBlock := ⟨k2.os, k2.tape, k2.output, Nat.le_trans (by simp) k2.size, fun y hy hne => (k2.block y (by simp; omega) hne).trans (Below.heap_alloc W _ y hy)⟩
  have hb : Below lo W w' := (Below.refl lo W).grown hg hbase (fun y hy => (World.ownsRow.lt hrow y hy).1)
  have k1' : w'.ownsRow lo 36 6 v' (es.length + 1) ((ps ++ [(e, u)]).flatMap epCells) := by simpa [epCells] using k1
  obtain ⟨g', c', rfl, _⟩ := own_form k1' (by omega)
  refine h g' c' w' ?_ (k3.imp (fun q => q.symm.trans rfl) (fun q => by simpa [Value.ownBlock] using q)) hg hb
  obtain ⟨r', hr'⟩ := (hP.le (Nat.le_refl _) h1).snoc hu h2 h4
  refine ⟨ps ++ [(e, u)], r', by rw [List.map_append, hm]; rfl, by simpa using k1', ?_⟩
  refine PartsR.reval (v := v) (N := W.heap.size + 1) (hr'.keep (fun y _ hy hne => hg.block y (by omega) (fun e => hne e.symm)) hg.size) (by simpa using k3) (by omega)
end Go.Proofs.YtfapnipmgmpgaaaGreatDoor

namespace Go.Proofs.YtfapnipmgmpgaaaGreatDoor

theorem lens_app (xs ys : List GRule) : lens (xs ++ ys) = ys.foldl lensStep (lens xs) := by simp [lens, List.foldl_append]
/-- Rules that are right are right up to each place. -/
theorem lens_pre {xs ys : List GRule} {l : List Int} (h : lens (xs ++ ys) = some l) : ∃ l1 t, lens xs = some l1 ∧ l = l1 ++ t := by
  rw [lens_app] at h
  cases hx : lens xs with
  | none => rw [hx, lens_none] at h; cases h
  | some l1 =>
    rw [hx] at h
    suffices H : ∀ (ys : List GRule) (a o : List Int), ys.foldl lensStep (some a) = some o → ∃ t, o = a ++ t by
      obtain ⟨t, ht⟩ := H ys l1 l h
      exact ⟨l1, t, rfl, ht⟩
    intro ys
    induction ys with
    | nil => intro a o h; simp at h; exact ⟨[], by simp [h]⟩
    | cons y ys ih =>
      intro a o h
      rw [List.foldl_cons] at h
      cases hs : lensStep (some a) y with
      | none => rw [hs, lens_none] at h; cases h
      | some b =>
        rw [hs] at h
        obtain ⟨t, rfl⟩ := ih b o h
        simp only [lensStep, Option.bind_some] at hs
        split at hs
        · cases hs; exact ⟨_, by rw [List.append_assoc]⟩
        · cases hs
theorem getR_app {xs ys : List GRule} {r : Nat} (h : r < xs.length) : getR (xs ++ ys) r = getR xs r := by
  unfold getR; rw [List.getD_eq_getElem?_getD, List.getElem?_append_left h, List.getD_eq_getElem?_getD]
theorem wordR_app {xs ys : List GRule} {ls : List Int} (h : lens xs = some ls) : ∀ (f r : Nat), r < xs.length → wordR (xs ++ ys) f r = wordR xs f r := by
  intro f
  induction f with
  | zero => intro r _; rfl
  | succ f ih =>
    intro r hr
    rw [wordR, wordR, getR_app hr]
    cases hp : (getR xs r).pair with
    | false => rfl
    | true =>
      obtain ⟨q1, q2, q3, q4, q5⟩ := lens_pair h hr hp
      rw [if_pos rfl, if_pos rfl, ih _ (by omega), ih _ (by omega)]
theorem W1_appL {xs ys : List GRule} {ls : List Int} (h : lens xs = some ls) {r : Nat} (hr : r < xs.length) : W1 (xs ++ ys) r = W1 xs r := wordR_app h _ _ hr
theorem getR_new (xs : List GRule) (x : GRule) : getR (xs ++ [x]) xs.length = x := by
  unfold getR; rw [List.getD_eq_getElem?_getD, List.getElem?_append_right (Nat.le_refl _), Nat.sub_self]; rfl
theorem W1_snoc {xs : List GRule} {l : List Int} {a b : Nat} (h : lens (xs ++ [pairR a b]) = some l) (ha : a < xs.length) (hb : b < xs.length) : W1 (xs ++ [pairR a b]) xs.length = W1 xs a ++ W1 xs b := by
  obtain ⟨l1, t, h1, _⟩ := lens_pre h
  have hp : (getR (xs ++ [pairR a b]) xs.length).pair = true := by rw [getR_new]; exact pairR_pair _ _
  rw [W1_pair h (by simp) hp, getR_new]
  show W1 (xs ++ [pairR a b]) (Int.toNat (a : Int)) ++ W1 (xs ++ [pairR a b]) (Int.toNat (b : Int)) = _
  rw [Int.toNat_natCast, Int.toNat_natCast, W1_appL h1 ha, W1_appL h1 hb]
theorem lens_snoc {xs : List GRule} {ls : List Int} {a b : Nat} (h : lens xs = some ls) (ha : a < xs.length) (hb : b < xs.length) (hm : ls.getD a 0 + ls.getD b 0 ≤ maxL) : lens (xs ++ [pairR a b]) = some (ls ++ [ls.getD a 0 + ls.getD b 0]) := by
  rw [lens_app, h]
  have hl := lens_length h
  have hr : ruleLen ls (pairR a b) = ls.getD a 0 + ls.getD b 0 := by
    unfold ruleLen
    rw [if_pos (pairR_pair _ _)]
    show ls.getD (Int.toNat (a : Int)) 0 + ls.getD (Int.toNat (b : Int)) 0 = _
    rw [Int.toNat_natCast, Int.toNat_natCast]
  simp only [List.foldl_cons, List.foldl_nil, lensStep, Option.bind_some]
  rw [hr, if_pos ⟨okRule_pair ⟨by omega, by omega⟩ ⟨by omega, by omega⟩, hm⟩]
theorem wordG_snoc {xs : List GRule} {x : GRule} : wordG (xs ++ [x]) = W1 (xs ++ [x]) xs.length := by
  rw [wordG_pos (by simp)]; simp
/-- Joining one rule behind another. -/
theorem join_word {xs : List GRule} {ls : List Int} (h : lens xs = some ls) : ∀ (cs : List Nat) (L : List GRule) (l0 : List Int) (t : Nat) (w : List UInt8), lens L = some l0 → (∃ y, L = xs ++ y) → t < L.length → W1 L t = w → (∀ c ∈ cs, c < xs.length) →
    ((w ++ cs.flatMap (W1 xs)).length : Int) ≤ maxL → ∃ (l1 : List Int) (T : Nat), lens (cs.foldl joinStep (L, (t : Int))).1 = some l1 ∧ (cs.foldl joinStep (L, (t : Int))).2 = (T : Int) ∧ T < (cs.foldl joinStep (L, (t : Int))).1.length ∧ W1 (cs.foldl joinStep (L, (t : Int))).1 T = w ++ cs.flatMap (W1 xs) ∧ (cs ≠ [] → T = (cs.foldl joinStep (L, (t : Int))).1.length - 1) := by
  intro cs
  induction cs with
  | nil => intro L l0 t w h1 _ ht hw _ _; exact ⟨l0, t, h1, rfl, ht, by simpa using hw, fun h => absurd rfl h⟩
  | cons c cs ih =>
    intro L l0 t w h1 hy ht hw hc hm
    obtain ⟨y, rfl⟩ := hy
    have hcl : c < xs.length := hc c (by simp)
    have hcL : c < (xs ++ y).length := by simp; omega
    have hwc : W1 (xs ++ y) c = W1 xs c := W1_appL h hcl
    have e1 := W1_len h1 t ht
    have e2 := W1_len h1 c hcL
    rw [hw] at e1
    rw [hwc] at e2
    rw [List.flatMap_cons, ← List.append_assoc] at hm
    have hsum : l0.getD t 0 + l0.getD c 0 ≤ maxL := by
      rw [List.length_append, List.length_append] at hm
      omega
    have h2 := lens_snoc h1 ht hcL hsum
    have hw2 := W1_snoc h2 ht hcL
    rw [hw, hwc] at hw2
    obtain ⟨l1, T, k1, k2, k3, k4, k5⟩ := ih ((xs ++ y) ++ [pairR t c]) _ (xs ++ y).length (w ++ W1 xs c) h2 ⟨y ++ [pairR t c], by rw [List.append_assoc]⟩ (by simp) hw2 (fun d hd => hc d (by simp [hd])) hm
    have e : (c :: cs).foldl joinStep (xs ++ y, (t : Int)) = cs.foldl joinStep ((xs ++ y) ++ [pairR t c], (((xs ++ y).length : Nat) : Int)) := rfl
    rw [e]
    refine ⟨l1, T, k1, k2, k3, by rw [k4, List.flatMap_cons, List.append_assoc], fun _ => ?_⟩
    by_cases hcs : cs = []
    · subst hcs
      have : T = (xs ++ y).length := by
        have h3 : (((xs ++ y).length : Nat) : Int) = (T : Int) := k2
        omega
      rw [this]; simp
    · exact k5 hcs
theorem cutG_word {xs : List GRule} {ls : List Int} (h : lens xs = some ls) (cs : List Nat) (hc : ∀ c ∈ cs, c < xs.length) (hm : ((cs.flatMap (W1 xs)).length : Int) ≤ maxL) : ∃ l1, lens (cutG xs cs) = some l1 ∧ wordG (cutG xs cs) = cs.flatMap (W1 xs) := by
  match cs with
  | [] => exact ⟨[], rfl, rfl⟩
  | [c] =>
    have hcl : c < xs.length := hc c (by simp)
    have hx : xs.take (c + 1) ++ xs.drop (c + 1) = xs := List.take_append_drop _ _
    obtain ⟨l1, t, h1, _⟩ := lens_pre (xs := xs.take (c + 1)) (ys := xs.drop (c + 1)) (by rw [hx]; exact h)
    refine ⟨l1, h1, ?_⟩
    show wordG (xs.take (c + 1)) = _
    have hl : (xs.take (c + 1)).length = c + 1 := by rw [List.length_take]; omega
    rw [wordG_pos (by omega), hl, List.flatMap_cons, List.flatMap_nil, List.append_nil]
    have := W1_appL (ys := xs.drop (c + 1)) h1 (r := c) (by omega)
    rw [hx] at this
    rw [this]; rfl
  | c :: d :: cs =>
    obtain ⟨l1, T, k1, k2, k3, k4, k5⟩ := join_word h (d :: cs) xs ls c (W1 xs c) h ⟨[], by simp⟩ (hc c (by simp)) rfl (fun x hx => hc x (by simp at hx; simp; exact .inr hx)) (by simpa using hm)
    refine ⟨l1, k1, ?_⟩
    have hT := k5 (by simp)
    show wordG ((d :: cs).foldl joinStep (xs, (c : Int))).1 = _
    rw [wordG_pos (by omega), ← hT, k4]; simp
/-- The word of a part is the part of the word. -/
theorem partG_word {xs : List GRule} {ls : List Int} (h : lens xs = some ls) {i j : Int} (hi : 0 ≤ i) (hij : i ≤ j) (hj : j ≤ lastI ls) : ∃ l1, lens (partG xs ls i j) = some l1 ∧ wordG (partG xs ls i j) = cutL (wordG xs) i j := by
  have hw := pieces_word h (i := i) (j := j)
  have hlen := wordG_len h
  have hb := gramLen_bounds xs
  rw [gramLen_of h] at hb
  have hm : (((piecesL xs ls i j).flatMap (W1 xs)).length : Int) ≤ maxL := by
    rw [hw, cutL_len hi hij (by omega)]; unfold maxL; omega
  obtain ⟨l1, h1, h2⟩ := cutG_word h _ (pieces_mem h i j) hm
  obtain ⟨l2, h3, h4, _⟩ := trimG_sem h1
  exact ⟨l2, h3, by unfold partG; rw [h4, h2, hw]⟩
theorem partG_gramLen {xs : List GRule} {ls : List Int} (h : lens xs = some ls) {i j : Int} (hi : 0 ≤ i) (hij : i ≤ j) (hj : j ≤ lastI ls) : gramLen (partG xs ls i j) = j - i := by
  obtain ⟨l1, h1, h2⟩ := partG_word h hi hij hj
  have hlen := wordG_len h
  rw [gramLen_of h1, ← wordG_len h1, h2, cutL_len hi hij (by omega)]
/-! powers -/
def repW (w : List UInt8) (n : Nat) : List UInt8 := (List.replicate n w).flatten
theorem repW_add (w : List UInt8) (m n : Nat) : repW w (m + n) = repW w m ++ repW w n := by
  unfold repW; rw [← List.replicate_append_replicate, List.flatten_append]
theorem repW_one (w : List UInt8) : repW w 1 = w := by simp [repW]
theorem repW_len (w : List UInt8) (n : Nat) : (repW w n).length = n * w.length := by simp [repW]
def digV (m : Nat) (d : UInt8) : Nat := 2 * m + (if d = 49 then 1 else 0)
theorem powStep_pre (root : Int) (L : List GRule) (ds : List UInt8) : ∃ t, ds.foldl (powStep root) L = L ++ t := by
  induction ds generalizing L with
  | nil => exact ⟨[], by simp⟩
  | cons d ds ih =>
    obtain ⟨t, ht⟩ := ih (powStep root L d)
    rw [List.foldl_cons, ht]
    unfold powStep
    exact ⟨_, by simp only [List.append_assoc]; rfl⟩
theorem powFold_word {w : List UInt8} {root : Nat} : ∀ (ds : List UInt8) (L : List GRule) (l : List Int) (m : Nat), lens (ds.foldl (powStep (root : Int)) L) = some l → 0 < L.length → root < L.length → W1 L root = w → wordG L = repW w m →
    wordG (ds.foldl (powStep (root : Int)) L) = repW w (ds.foldl digV m) := by
  intro ds
  induction ds with
  | nil => intro L l m _ _ _ _ h; exact h
  | cons d ds ih =>
    intro L l m hl h0 hr hw hm
    rw [List.foldl_cons] at hl ⊢
    rw [List.foldl_cons]
    obtain ⟨t, ht⟩ := powStep_pre root (powStep root L d) ds
    obtain ⟨l1, _, h1, _⟩ := lens_pre (by rw [← ht]; exact hl)
    have e0 : ((L.length : Int) - 1) = ((L.length - 1 : Nat) : Int) := by omega
    have hS : powStep root L d = (L ++ [pairR ((L.length - 1 : Nat) : Int) ((L.length - 1 : Nat) : Int)]) ++ (if d = 49 then [pairR (L.length : Int) root] else []) := by
      unfold powStep; rw [e0]
    rw [hS] at h1
    obtain ⟨l2, _, h2, _⟩ := lens_pre h1
    obtain ⟨l3, _, h3, _⟩ := lens_pre h2
    have w2 := W1_snoc h2 (by omega) (by omega)
    have hlast : W1 L (L.length - 1) = repW w m := by rw [← hm, wordG_pos h0]
    rw [hlast] at w2
    refine ih _ l _ hl ?_ ?_ ?_ ?_
    · rw [hS]; simp only [List.length_append]; omega
    · rw [hS]; simp only [List.length_append]; omega
    · rw [hS, List.append_assoc, W1_appL h3 hr, hw]
    · rw [hS]
      by_cases hd : d = 49
      · rw [if_pos hd] at h1 ⊢
        have hl2 : (L ++ [pairR ((L.length - 1 : Nat) : Int) ((L.length - 1 : Nat) : Int)]).length = L.length + 1 := by simp
        have w3 := W1_snoc (a := L.length) (b := root) h1 (by omega) (by omega)
        rw [wordG_snoc, w3, w2, W1_appL h3 hr, hw]
        unfold digV
        rw [if_pos hd, Nat.two_mul, repW_add, repW_add, repW_one]
      · rw [if_neg hd, List.append_nil, wordG_snoc, w2]
        unfold digV
        rw [if_neg hd, Nat.two_mul, Nat.add_zero, repW_add]
theorem binL_val (n : Nat) : (binL n).foldl digV 0 = n := by
  induction n using Nat.strongRecOn with
  | ind n ih =>
    by_cases c : n < 2
    · rw [binL_lt c]
      rcases (by omega : n = 0 ∨ n = 1) with rfl | rfl <;> rfl
    · rw [binL_ge c, List.foldl_append, ih (n / 2) (by omega)]
      simp only [List.foldl_cons, List.foldl_nil, digV]
      rcases (by omega : n % 2 = 0 ∨ n % 2 = 1) with h | h
      · rw [h]; simp; omega
      · rw [h]; simp; omega
theorem binL_head (n : Nat) (h : 0 < n) : ∃ t, binL n = 49 :: t := by
  induction n using Nat.strongRecOn with
  | ind n ih =>
    by_cases c : n < 2
    · rw [binL_lt c, show n = 1 by omega]; exact ⟨[], rfl⟩
    · obtain ⟨t, ht⟩ := ih (n / 2) (by omega) (by omega)
      rw [binL_ge c, ht]; exact ⟨_, rfl⟩
/-- The word of a power. -/
theorem powG_word {xs : List GRule} {ls l : List Int} (h : lens xs = some ls) {n : Nat} (hp : lens (powG xs n) = some l) : wordG (powG xs n) = repW (wordG xs) n := by
  unfold powG at hp ⊢
  split
  · rename_i hc
    rcases hc with rfl | hc
    · rfl
    · have : xs = [] := List.eq_nil_of_length_eq_zero hc
      subst this
      simp [repW, wordG]
  · rename_i hc
    rw [if_neg hc] at hp
    have h0 : 0 < xs.length := by omega
    obtain ⟨t, ht⟩ := binL_head n (by omega)
    have hv := binL_val n
    rw [ht] at hp hv ⊢
    rw [List.tail_cons] at hp ⊢
    have e0 : ((xs.length : Int) - 1) = ((xs.length - 1 : Nat) : Int) := by omega
    rw [e0] at hp ⊢
    have := powFold_word (w := wordG xs) t xs l 1 hp h0 (by omega) (by rw [wordG_pos h0]) (repW_one _).symm
    rw [this]
    rw [List.foldl_cons] at hv
    have e1 : digV 0 49 = 1 := rfl
    rw [e1] at hv
    rw [hv]
theorem powG_gramLen {xs : List GRule} {n : Nat} (h : gramOk xs = true) (hp : gramOk (powG xs n) = true) : gramLen (powG xs n) = n * gramLen xs := by
  obtain ⟨_, ls, h1⟩ := gram_lens h
  obtain ⟨_, l, h2⟩ := gram_lens hp
  rw [gramLen_of h2, gramLen_of h1, ← wordG_len h2, ← wordG_len h1, powG_word h1 h2, repW_len]
  simp
end Go.Proofs.YtfapnipmgmpgaaaGreatDoor

