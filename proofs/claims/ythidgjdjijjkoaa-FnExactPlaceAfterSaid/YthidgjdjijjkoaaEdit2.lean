import Derived.Test.YthidgjdjijjkoaaEdit
import Derived.Test.YthidgjdjijjkoaaAuto
namespace Go.Proofs.Ythidgjdjijjkoaa
open Go.RowKit

def usesS (k : Int) : ByteArray := if k = 1 then ⟨#[73, 80]⟩ else if k = 2 then ⟨#[73, 74]⟩ else if k = 3 then ⟨#[73, 74, 75]⟩ else if k = 4 then ⟨#[73, 74, 75]⟩ else if k = 5 then ⟨#[73, 74]⟩ else if k = 6 then ⟨#[73, 74, 75]⟩ else ⟨#[73, 74, 77]⟩
def hasByte (s : ByteArray) (b : UInt8) : Bool := s.data.toList.any (· == b)
theorem uses_has {k : Int} (h : inR k 1 7 = true) : hasByte (usesS k) 74 = usesJ k ∧ hasByte (usesS k) 75 = usesK k ∧ hasByte (usesS k) 80 = (k == 1) ∧ hasByte (usesS k) 77 = (k == 7) ∧ (usesS k).size ≤ 3 := by
  rcases kind7 h with rfl | rfl | rfl | rfl | rfl | rfl | rfl <;> decide
set_option maxRecDepth 100000 in
set_option maxHeartbeats 4000000 in
theorem l07Uses_any (k : Int) (w : World) (h : inR k 1 7 = true) :
    Calls Try.prog 133 #[.int .i64 k] w fun e w' => e = .returned (.string (usesS k)) ∧ Below w.heap.size w w' := by
  rcases kind7 h with rfl | rfl | rfl | rfl | rfl | rfl | rfl <;>
  · clear h
    go_enter Try.func133, Try.ntmps133
    go_wp2
    go_ret
    exact ⟨rfl, (by repeat (first | exact Below.refl _ _ | (refine Below.alloc ?_ (by first | omega | (simp; done) | (simp; omega)) _) | refine below_drewN ?_ _ | refine Below.drew ?_))⟩

theorem has_true {s : ByteArray} {b : UInt8} {k : Nat} (h : k < s.size) (e : s[k] = b) : hasByte s b = true := by
  unfold hasByte
  rw [List.any_eq_true]
  exact ⟨s[k], by rw [Array.mem_toList_iff]; exact Array.getElem_mem h, by simp [e]⟩
theorem has_false {s : ByteArray} {b : UInt8} (h : ∀ j (hj : j < s.size), s[j] ≠ b) : hasByte s b = false := by
  unfold hasByte
  rw [List.any_eq_false]
  intro x hx
  rw [Array.mem_toList_iff] at hx
  obtain ⟨j, hj, rfl⟩ := Array.getElem_of_mem hx
  have := h j hj
  simp only [beq_iff_eq]
  exact this
set_option maxRecDepth 100000 in
theorem l07Has_any (s : ByteArray) (b : UInt8) (w : World) (hs : s.size ≤ maxLen) :
    Calls Try.prog 135 #[.string s, .int .u8 b.toNat] w fun e w' => e = .returned (.bool (hasByte s b)) ∧ w = w' := by
  unfold maxLen at hs
  go_enter Try.func135, Try.ntmps135
  go_wp2_with fail
  go_loop [5] (fun i => ∃ k : Nat, k ≤ s.size ∧ i = .int .i64 k ∧ ∀ j (hj : j < s.size), j < k → s[j] ≠ b) (fun i => s.size - (intOf i).toNat)
  case atStart => exact ⟨0, Nat.zero_le _, rfl, fun j hj h => absurd h (by omega)⟩
  case round =>
    obtain ⟨k, hk, rfl, hno⟩ := hrel
    have Hno := Lib.hid hno
    clear hno
    by_cases hlt : k < s.size
    · by_cases hp : s[k] = b
      · have Hp := Lib.hid hp
        have g : ((s[k].toNat : Int) == (b.toNat : Int)) = true := by rw [hp]; simp
        clear hp
        go_wp2
        go_ret
        exact ⟨ret_bool (has_true hlt Hp.out).symm, rfl⟩
      · have Hp := Lib.hid hp
        have g : ((s[k].toNat : Int) == (b.toNat : Int)) = false := by
          rw [beq_eq_false_iff_ne]; intro h
          exact hp (UInt8.toNat_inj.1 (by omega))
        clear hp
        go_wp2
        go_round
        case rel =>
          refine ⟨k + 1, by omega, by go_num, fun j hj h => ?_⟩
          by_cases e : j = k
          · subst e; exact Hp.out
          · exact Hno.out j hj (by omega)
        case measure => simp [intOf]; omega
    · go_wp2
      go_ret
      exact ⟨ret_bool (has_false (fun j hj => Hno.out j hj (by omega))).symm, rfl⟩

theorem l07Number_any (n : Int) (b : Bool) (w : World) :
    Calls Try.prog 134 #[.int .i64 n, .bool b] w fun r w' => r = .returned (.bool (numOk n b)) ∧ w = w' := by
  cases b
  · go_enter Try.func134, Try.ntmps134
    go_wp2_with fail
    go_ret
    exact ⟨rfl, rfl⟩
  · go_enter Try.func134, Try.ntmps134
    go_wp2_with fail
    refine (l00In_any _ _ _ _).mono ?_
    rintro r w' ⟨rfl, rfl⟩
    go_wp2_with fail
    go_ret
    exact ⟨rfl, rfl⟩

/-- An edit at an address, below B. -/
structure EditAt (w : World) (B b : Nat) (e : GEdit) (vR : Value) : Prop where
  box : Box6 w b (.int .i64 e.kind) (.int .i64 e.i) (.int .i64 e.j) (.int .i64 e.k) vR (.string e.map)
  lt : b < B
  sl : Sl RuleE w B vR e.part
theorem EditAt.up {w w' : World} {b : Nat} {e : GEdit} {vR : Value} (h : EditAt w w.heap.size b e vR) (hb : Below w.heap.size w w') : EditAt w' w'.heap.size b e vR :=
  ⟨h.box.up hb h.lt, Nat.lt_of_lt_of_le h.lt hb.size, h.sl.up hb⟩

set_option maxRecDepth 100000 in
set_option maxHeartbeats 2000000 in
theorem l07Range_any (b : Nat) (vR : Value) (e : GEdit) (n : Int) (w : World) (h : EditAt w w.heap.size b e vR) (hk : inR e.kind 1 7 = true) :
    Calls Try.prog 101 #[.pointer (some ⟨b, 0, none⟩), .int .i64 n] w fun r w' => r = .returned (.bool (editFits e n)) ∧ Below w.heap.size w w' := by
  obtain ⟨k, i, j, kk, part, map⟩ := e
  obtain ⟨⟨x0, x1, x2, x3, x4, x5⟩, hlt, _⟩ := h
  simp only at hk x0 x1 x2 x3 x4 x5
  rcases kind7 hk with rfl | rfl | rfl | rfl | rfl | rfl | rfl
  all_goals clear hk
  rotate_left 3
  · by_cases c1 : j ≤ n
    · by_cases c2 : kk ≤ i
      · go_enter Try.func101, Try.ntmps101
        go_wp2_with fail
        go_quiet (fail)
        go_wp2_with fail
        go_ret
        exact ⟨ret_bool (by simp [editFits, c1, c2]), (by repeat (first | exact Below.refl _ _ | (refine Below.alloc ?_ (by first | omega | (simp; done) | (simp; omega)) _) | refine below_drewN ?_ _ | refine Below.drew ?_))⟩
      · have g2 : decide (kk ≤ i) = false := by simp; omega
        by_cases c3 : j ≤ kk
        · go_enter Try.func101, Try.ntmps101
          go_wp2_with fail
          go_quiet (fail)
          go_wp2_with fail
          go_ret
          exact ⟨ret_bool (by simp [editFits, c1, g2, c3]), (by repeat (first | exact Below.refl _ _ | (refine Below.alloc ?_ (by first | omega | (simp; done) | (simp; omega)) _) | refine below_drewN ?_ _ | refine Below.drew ?_))⟩
        · have g3 : decide (j ≤ kk) = false := by simp; omega
          have C3 := Lib.hid c3
          go_enter Try.func101, Try.ntmps101
          go_wp2_with fail
          go_quiet (fail)
          go_wp2_with fail
          go_ret
          exact ⟨ret_bool (by simp [editFits, c1, g2, g3]), (by repeat (first | exact Below.refl _ _ | (refine Below.alloc ?_ (by first | omega | (simp; done) | (simp; omega)) _) | refine below_drewN ?_ _ | refine Below.drew ?_))⟩
    · have g1 : decide (j ≤ n) = false := by simp; omega
      go_enter Try.func101, Try.ntmps101
      go_wp2_with fail
      go_quiet (fail)
      go_wp2_with fail
      go_ret
      exact ⟨ret_bool (by simp [editFits, g1]), (by repeat (first | exact Below.refl _ _ | (refine Below.alloc ?_ (by first | omega | (simp; done) | (simp; omega)) _) | refine below_drewN ?_ _ | refine Below.drew ?_))⟩
  all_goals
    go_enter Try.func101, Try.ntmps101
    go_wp2_with fail
    all_goals
      go_ret
      refine ⟨ret_bool ?_, (by repeat (first | exact Below.refl _ _ | (refine Below.alloc ?_ (by first | omega | (simp; done) | (simp; omega)) _) | refine below_drewN ?_ _ | refine Below.drew ?_))⟩
      rw [Bool.eq_iff_iff]
      simp [editFits] at *
      try omega
end Go.Proofs.Ythidgjdjijjkoaa
