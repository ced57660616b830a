import Derived.Test.YtoemoifeiigkoaaIntss
import Derived.Deep.RegionHeld3
namespace Go.Proofs.Ytoemoifeiigkoaa
open Go.RowKit

theorem szRule_any (l : ByteArray) (a b left : Int) (w : World) (hs : l.size ≤ 9223372036854775807) (hl : 0 ≤ left ∧ left ≤ 1048576) :
    Calls Try.prog 170 #[.agg #[.string l, .int .i64 a, .int .i64 b], .int .i64 left] w fun e w' => e = .returned (.int .i64 (szN l.size left)) ∧ Below w.heap.size w w' := by
  go_enter Try.func170, Try.ntmps170
  go_wp2
  all_goals
    go_ret
    exact ⟨ret_int (by unfold szN; split <;> omega), (by repeat (first | exact (Below.refl _ _) | (refine Below.alloc ?_ (by first | omega | (simp; done) | (simp; omega)) _) | refine below_drewN ?_ _ | refine Below.drew ?_))⟩

def szRR : List GRule → Int → Int
  | [], left => left
  | x :: xs, left => if szN x.letter.size left < 0 then -1 else szRR xs (szN x.letter.size left)
def szRs (xs : List GRule) (left : Int) : Int := if szN xs.length left < 0 then -1 else szRR xs (szN xs.length left)
theorem szRR_at (xs : List GRule) (left : Int) (k : Nat) (x : GRule) (hx : xs[k]? = some x) : szRR (xs.drop k) left = if szN x.letter.size left < 0 then -1 else szRR (xs.drop (k+1)) (szN x.letter.size left) := by
  obtain ⟨hk, rfl⟩ := List.getElem?_eq_some_iff.1 hx
  rw [List.drop_eq_getElem_cons hk]; rfl
/-- The letters' texts are no longer than a text can be. -/
def SmallL (rs : List GRule) : Prop := ∀ r ∈ rs, r.letter.size ≤ 9223372036854775807

theorem szRuleS_any (v : Value) (xs : List GRule) (left : Int) (w : World) (h : Sl RuleE w w.heap.size v xs) (hsm : SmallL xs) (hl : 0 ≤ left ∧ left ≤ 1048576) :
    Calls Try.prog 71 #[v, .int .i64 left] w fun e w' => e = .returned (.int .i64 (szRs xs left)) ∧ Below w.heap.size w w' := by
  obtain ⟨A, c, rfl, hc, hm, hrow⟩ := h
  unfold maxLen at hm
  go_enter Try.func71, Try.ntmps71
  go_wp2_with fail
  · go_ret
    exact ⟨ret_int (by unfold szRs szN; rw [if_pos (by omega)]), Below.refl _ _⟩
  · have hs : szN xs.length left = left - xs.length := by unfold szN; rw [if_neg (by omega)]
    have hfin : szRs xs left = szRR xs (left - xs.length) := by unfold szRs; rw [hs, if_neg (by omega)]
    have Hfin := Lib.hid hfin
    clear hs hfin
    go_loopw [1, 5] (fun l i wr => ∃ (k : Nat) (q : Int), k ≤ xs.length ∧ 0 ≤ q ∧ q ≤ 1048576 ∧ i = .int .i64 k ∧ l = .int .i64 q ∧ Hid (szRR (xs.drop k) q = szRs xs left) ∧ Below w.heap.size w wr) (fun _ i _ => xs.length - (intOf i).toNat)
    case atStart => exact ⟨0, _, Nat.zero_le _, by omega, by omega, rfl, rfl, by rw [Hfin.out]; rfl, Below.refl _ _⟩
    case round =>
      obtain ⟨k, q, hk, hq0, hq1, rfl, rfl, HN, hb⟩ := hrel
      by_cases hlt : k < xs.length
      · obtain ⟨b, o, rfl, hbl, hcell⟩ := hrow.rule hlt
        obtain ⟨x, hx⟩ : ∃ x, xs[k]? = some x := ⟨_, List.getElem?_eq_getElem hlt⟩
        obtain ⟨g0, g1, g2⟩ := hcell k x hx
        have hc0 := (hb.cell (p := ⟨b, o + k * 3, none⟩) hbl).trans g0
        have hc1 := (hb.cell (p := ⟨b, o + k * 3 + 1, none⟩) hbl).trans g1
        have hc2 := (hb.cell (p := ⟨b, o + k * 3 + 2, none⟩) hbl).trans g2
        have hsx := hsm x (List.mem_of_getElem? hx)
        have Hx := Lib.hid hx
        clear hcell hx g0 g1 g2
        go_wp2_with (first | (go_at_call 170; go_must (refine (szRule_any _ _ _ _ _ hsx ⟨hq0, hq1⟩).mono ?_); rintro e w2 ⟨rfl, hb2⟩))
        · go_ret
          exact ⟨ret_int (by have := HN.out; rw [szRR_at _ _ _ _ Hx.out, if_pos (by assumption)] at this; exact this), hb.trans (hb2.mono hb.size)⟩
        · have h2 : 0 ≤ szN x.letter.size q := by assumption
          have h3 : szN x.letter.size q ≤ q := by unfold szN at h2 ⊢; split at h2 <;> split <;> omega
          go_roundw
          case rel => exact ⟨k + 1, _, by omega, h2, by omega, by go_num, rfl, by have := HN.out; rw [szRR_at _ _ _ _ Hx.out, if_neg (by omega)] at this; exact this, hb.trans (hb2.mono hb.size)⟩
          case measure => simp [intOf]; omega
      · go_wp2
        go_ret
        exact ⟨ret_int (by have := HN.out; rw [List.drop_eq_nil_of_le (by omega)] at this; exact this), hb⟩

theorem szRR_le (xs : List GRule) : ∀ left : Int, 0 ≤ left → szRR xs left ≤ left := by
  induction xs with
  | nil => intro l h; simp [szRR]
  | cons x xs ih =>
    intro l h
    unfold szRR
    split
    · omega
    · have := ih (szN x.letter.size l) (by omega)
      have h3 : szN x.letter.size l ≤ l := by unfold szN; split <;> omega
      omega
theorem szRs_le (xs : List GRule) (left : Int) (h2 : 0 ≤ szRs xs left) : szRs xs left ≤ left ∧ (xs.length : Int) ≤ left := by
  unfold szRs at *
  split
  · rename_i h3; rw [if_pos h3] at h2; omega
  · rename_i h3
    have := szRR_le xs (szN xs.length left) (by omega)
    unfold szN at *
    split at h3 <;> (try omega)

theorem szGrammar_any (v : Value) (xs : List GRule) (left : Int) (w : World) (h : Sl RuleE w w.heap.size v xs) (hsm : SmallL xs) (hl : 0 ≤ left ∧ left ≤ 1048576) :
    Calls Try.prog 13 #[.agg #[v], .int .i64 left] w fun e w' => e = .returned (.int .i64 (if szRs xs left < 0 then -1 else szRs xs left)) ∧ Below w.heap.size w w' := by
  have h1 := fun o => (h.below ((Below.refl w.heap.size w).alloc (Nat.le_refl _) o)).le (B' := (w.alloc o).heap.size) (by simp)
  obtain ⟨A, c, rfl, hc, hm, hrow⟩ := h
  have H1 := Lib.hid h1
  clear h1 hm hrow
  go_enter Try.func13, Try.ntmps13
  go_wp2_with (first | (go_at_call 71; go_must (refine (szRuleS_any _ _ _ _ (H1.out _) hsm hl).mono ?_); rintro e w2 ⟨rfl, hb2⟩))
  all_goals
    go_ret
    exact ⟨ret_int (by first | rfl | (split <;> omega)), ((Below.refl _ _).alloc (Nat.le_refl _) _).trans (hb2.mono (by simp))⟩

theorem toRule_any (l : ByteArray) (a b : Int) (w : World) :
    Calls Try.prog 173 #[.agg #[.string l, .int .i64 a, .int .i64 b]] w fun e w' => e = .returned (.agg #[.string l, .int .i64 a, .int .i64 b]) ∧ Below w.heap.size w w' := by
  go_enter Try.func173, Try.ntmps173
  go_wp2
  exact bodyPost_ret (v := .agg #[.string l, .int .i64 a, .int .i64 b]) (by simp [results, Try.results173, go_sem]) rfl ⟨rfl, (by repeat (first | exact (Below.refl _ _) | (refine Below.alloc ?_ (by first | omega | (simp; done) | (simp; omega)) _) | refine below_drewN ?_ _ | refine Below.drew ?_))⟩

theorem eqRule_any (l : ByteArray) (a b : Int) (w : World) :
    Calls Try.prog 181 #[.agg #[.string l, .int .i64 a, .int .i64 b], .agg #[.string l, .int .i64 a, .int .i64 b]] w fun e w' => e = .returned (.bool true) ∧ (w.alloc (.cells #[.string l, .int .i64 a, .int .i64 b] 171)).alloc (.cells #[.string l, .int .i64 a, .int .i64 b] 171) = w' := by
  go_enter Try.func181, Try.ntmps181
  go_wp2
  go_ret
  exact ⟨rfl, rfl⟩

theorem eqRuleS_any (v v' : Value) (xs : List GRule) (w : World) (h : Sl RuleE w w.heap.size v xs) (h' : Sl RuleE w w.heap.size v' xs) :
    Calls Try.prog 82 #[v, v'] w fun e w' => e = .returned (.bool true) ∧ Below w.heap.size w w' := by
  obtain ⟨A, c, rfl, hc, hm, hrow⟩ := h
  obtain ⟨A', c', rfl, hc', hm', hrow'⟩ := h'
  unfold maxLen at hm
  have hn : xs.length ≤ 9223372036854775807 := by omega
  clear hm hm'
  go_enter Try.func82, Try.ntmps82
  go_wp2_with fail
  go_loopw [5] (fun i wr => ∃ (k : Nat), k ≤ xs.length ∧ i = .int .i64 k ∧ Below w.heap.size w wr) (fun i _ => xs.length - (intOf i).toNat)
  case atStart => exact ⟨0, Nat.zero_le _, rfl, Below.refl _ _⟩
  case round =>
    obtain ⟨k, hk, rfl, hb⟩ := hrel
    by_cases hlt : k < xs.length
    · obtain ⟨b, o, rfl, hbl, hcell⟩ := hrow.rule hlt
      obtain ⟨b', o', rfl, hbl', hcell'⟩ := hrow'.rule hlt
      obtain ⟨x, hx⟩ : ∃ x, xs[k]? = some x := ⟨_, List.getElem?_eq_getElem hlt⟩
      obtain ⟨g0, g1, g2⟩ := hcell k x hx
      obtain ⟨g0', g1', g2'⟩ := hcell' k x hx
      have hc0 := (hb.cell (p := ⟨b, o + k * 3, none⟩) hbl).trans g0
      have hc1 := (hb.cell (p := ⟨b, o + k * 3 + 1, none⟩) hbl).trans g1
      have hc2 := (hb.cell (p := ⟨b, o + k * 3 + 2, none⟩) hbl).trans g2
      have hc0' := (hb.cell (p := ⟨b', o' + k * 3, none⟩) hbl').trans g0'
      have hc1' := (hb.cell (p := ⟨b', o' + k * 3 + 1, none⟩) hbl').trans g1'
      have hc2' := (hb.cell (p := ⟨b', o' + k * 3 + 2, none⟩) hbl').trans g2'
      have hi : (k : Int) < (xs.length : Int) := by omega
      have hsz : w.heap.size ≤ wr.heap.size := hb.size
      have hb1 : b < wr.heap.size := by omega
      have hb1' : b' < wr.heap.size := by omega
      clear hcell hcell' hx g0 g1 g2 g0' g1' g2'
      go_wp2_with fail
      go_region_held3 (fun w' => w'.cell? ⟨b, o + k * 3, none⟩ = some (.string x.letter) ∧ w'.cell? ⟨b, o + k * 3 + 1, none⟩ = some (.int .i64 x.left) ∧ w'.cell? ⟨b, o + k * 3 + 2, none⟩ = some (.int .i64 x.right) ∧ w'.cell? ⟨b', o' + k * 3, none⟩ = some (.string x.letter) ∧ w'.cell? ⟨b', o' + k * 3 + 1, none⟩ = some (.int .i64 x.left) ∧ w'.cell? ⟨b', o' + k * 3 + 2, none⟩ = some (.int .i64 x.right)) (go_keep)
        (first | (go_at_call 181; refine (eqRule_any _ _ _ _).mono ?_; rintro e w2 ⟨rfl, rfl⟩))
      go_wp2
      go_roundw
      case rel => exact ⟨k + 1, by omega, by go_num, (by repeat (first | exact hb | (refine Below.alloc ?_ (by first | omega | (simp; done) | (simp; omega)) _) | refine below_drewN ?_ _ | refine Below.drew ?_))⟩
      case measure => simp [intOf]; omega
    · go_wp2
      go_ret
      exact ⟨rfl, hb⟩

theorem madeRules (n : Nat) : (madeCells (Value.agg #[.string ⟨#[]⟩, .int .i64 0, .int .i64 0]).cells (n * 3)).toList = (List.replicate n ({ letter := ⟨#[]⟩, left := 0, right := 0 } : GRule)).flatMap GRule.cells := by
  apply List.ext_getElem?
  intro j
  by_cases hj : j < n * 3
  · have hq : (List.replicate n ({ letter := ⟨#[]⟩, left := 0, right := 0 } : GRule))[j / 3]? = some { letter := ⟨#[]⟩, left := 0, right := 0 } := by
      rw [List.getElem?_replicate, if_pos (by omega)]
    obtain ⟨c0, c1, c2⟩ := cells3 _ _ _ hq
    have hm : j % 3 = 0 ∨ j % 3 = 1 ∨ j % 3 = 2 := by omega
    have e : (madeCells (Value.agg #[.string ⟨#[]⟩, .int .i64 0, .int .i64 0]).cells (n * 3)).toList[j]? = some ((#[Value.string ⟨#[]⟩, .int .i64 0, .int .i64 0] : Array Value).getD (j % 3) undef) := by
      simp [madeCells, hj, Value.cells]
      rcases hm with h | h | h <;> simp [h]
    rw [e]
    rcases hm with h | h | h
    · rw [h, show j = j / 3 * 3 by omega, c0]; rfl
    · rw [h, show j = j / 3 * 3 + 1 by omega, c1]; rfl
    · rw [h, show j = j / 3 * 3 + 2 by omega, c2]; rfl
  · rw [List.getElem?_eq_none (by simp [madeCells]; omega), List.getElem?_eq_none (by simp [GRule.cells]; omega)]
end Go.Proofs.Ytoemoifeiigkoaa
