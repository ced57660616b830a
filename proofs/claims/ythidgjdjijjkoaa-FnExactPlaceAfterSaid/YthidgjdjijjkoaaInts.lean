import Derived.Test.YthidgjdjijjkoaaEnc
import Derived.Deep.DeepMust
import Derived.LoopTactic
namespace Go.Proofs.Ythidgjdjijjkoaa
open Go.RowKit

def szN (n : Nat) (left : Int) : Int := if left - n < 0 then -1 else left - n
theorem szInt64S_any (v : Value) (xs : List Int) (left : Int) (w : World) (h : Sl IntE w w.heap.size v xs) (hl : 0 ≤ left ∧ left ≤ 1048576) :
    Calls Try.prog 52 #[v, .int .i64 left] w fun e w' => e = .returned (.int .i64 (szN xs.length left)) ∧ w = w' := by
  obtain ⟨A, c, rfl, hc, hm, _⟩ := h
  unfold maxLen at hm
  go_enter Try.func52, Try.ntmps52
  go_wp2
  all_goals
    go_ret
    exact ⟨ret_int (by unfold szN; split <;> omega), rfl⟩

def szNN : List (List Int) → Int → Int
  | [], left => left
  | x :: xs, left => if szN x.length left < 0 then -1 else szNN xs (szN x.length left)
def szII (xs : List (List Int)) (left : Int) : Int := if szN xs.length left < 0 then -1 else szNN xs (szN xs.length left)
theorem szNN_at (xs : List (List Int)) (left : Int) (k : Nat) (x : List Int) (hx : xs[k]? = some x) : szNN (xs.drop k) left = if szN x.length left < 0 then -1 else szNN (xs.drop (k+1)) (szN x.length left) := by
  obtain ⟨hk, rfl⟩ := List.getElem?_eq_some_iff.1 hx
  rw [List.drop_eq_getElem_cons hk]; rfl

theorem szInt64SS_any (v : Value) (xs : List (List Int)) (left : Int) (w : World) (h : Sl (SliceE IntE) w w.heap.size v xs) (hl : 0 ≤ left ∧ left ≤ 1048576) :
    Calls Try.prog 53 #[v, .int .i64 left] w fun e w' => e = .returned (.int .i64 (szII xs left)) ∧ w = w' := by
  obtain ⟨A, c, rfl, hc, hm, hrow⟩ := h
  unfold maxLen at hm
  go_enter Try.func53, Try.ntmps53
  go_wp2_with fail
  · go_ret
    exact ⟨ret_int (by unfold szII szN; rw [if_pos (by omega)]), rfl⟩
  · have hs : szN xs.length left = left - xs.length := by unfold szN; rw [if_neg (by omega)]
    have H0 := Lib.hid hs
    have hfin : szII xs left = szNN xs (left - xs.length) := by unfold szII; rw [hs, if_neg (by omega)]
    have Hfin := Lib.hid hfin
    clear hs hfin
    go_loop [1, 5] (fun l i => ∃ (k : Nat) (q : Int), k ≤ xs.length ∧ 0 ≤ q ∧ q ≤ 1048576 ∧ i = .int .i64 k ∧ l = .int .i64 q ∧ Hid (szNN (xs.drop k) q = szII xs left)) (fun _ i => xs.length - (intOf i).toNat)
    case atStart => exact ⟨0, _, Nat.zero_le _, by omega, by omega, rfl, rfl, by rw [Hfin.out]; rfl⟩
    case round =>
      obtain ⟨k, q, hk, hq0, hq1, rfl, rfl, HN⟩ := hrel
      by_cases hlt : k < xs.length
      · obtain ⟨b, o, rfl, hbl, hcell⟩ := hrow.sl hlt
        obtain ⟨x, hx⟩ : ∃ x, xs[k]? = some x := ⟨_, List.getElem?_eq_getElem hlt⟩
        obtain ⟨u, hu, hsl⟩ := hcell k x hx
        have Hx := Lib.hid hx
        clear hcell hx
        go_wp2_with (first | (go_at_call 52; go_must (refine (szInt64S_any _ _ _ _ hsl ⟨hq0, hq1⟩).mono ?_); rintro e w' ⟨rfl, rfl⟩))
        · go_ret
          exact ⟨ret_int (by have := HN.out; rw [szNN_at _ _ _ _ Hx.out, if_pos (by assumption)] at this; exact this), rfl⟩
        · have h2 : 0 ≤ szN x.length q := by assumption
          have h3 : szN x.length q ≤ q := by unfold szN at h2 ⊢; split at h2 <;> split <;> omega
          go_round
          case rel => exact ⟨k + 1, _, by omega, h2, by omega, by go_num, rfl, by have := HN.out; rw [szNN_at _ _ _ _ Hx.out, if_neg (by omega)] at this; exact this⟩
          case measure => simp [intOf]; omega
      · go_wp2
        go_ret
        exact ⟨ret_int (by have := HN.out; rw [List.drop_eq_nil_of_le (by omega)] at this; exact this), rfl⟩

theorem szNN_le (xs : List (List Int)) : ∀ left : Int, 0 ≤ left → szNN xs left ≤ left := by
  induction xs with
  | nil => intro l h; simp [szNN]
  | cons x xs ih =>
    intro l h
    unfold szNN
    split
    · omega
    · have := ih (szN x.length l) (by omega)
      have h3 : szN x.length l ≤ l := by unfold szN; split <;> omega
      omega
end Go.Proofs.Ythidgjdjijjkoaa
