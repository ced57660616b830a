import Derived.Test.YtoemoifeiigkoaaRules2
import Derived.Test.YtoemoifeiigkoaaA1
namespace Go.Proofs.Ytoemoifeiigkoaa
open Go.RowKit

theorem l01Ok_any (s : ByteArray) (w : World) (hs : s.size ≤ maxLen) :
    Calls Try.prog 86 #[.string s] w fun e w' => e = .returned (.bool (wordOk s)) ∧ w = w' := by
  unfold maxLen at hs
  go_enter Try.func86, Try.ntmps86
  go_wp2_with fail
  · go_ret
    exact ⟨ret_bool (by symm; unfold wordOk; rw [Bool.and_eq_false_iff]; left; simp; omega), rfl⟩
  · go_loop [3] (fun i => ∃ k : Nat, k ≤ s.size ∧ i = .int .i64 k ∧ Hid ((s.data.toList.take k).all letOk = true)) (fun i => s.size - (intOf i).toNat)
    case atStart => exact ⟨0, Nat.zero_le _, rfl, by simp [Hid]⟩
    case round =>
      obtain ⟨k, hk, rfl, H⟩ := hrel
      by_cases hlt : k < s.size
      · by_cases h1 : (s[k].toNat : Int) < 97
        · go_wp2
          go_ret
          exact ⟨ret_bool (by have := all_bad hlt (by simp [letOk]; omega); simp [wordOk, this]), rfl⟩
        · by_cases h2 : 100 < (s[k].toNat : Int)
          · go_wp2
            go_ret
            exact ⟨ret_bool (by have := all_bad hlt (by simp [letOk]; omega); simp [wordOk, this]), rfl⟩
          · go_wp2
            go_round
            case rel => exact ⟨k + 1, by omega, by go_num, all_step hlt H.out (by simp [letOk]; omega)⟩
            case measure => simp [intOf]; omega
      · go_wp2
        go_ret
        exact ⟨ret_bool (by have := all_end (by omega) H.out; simp [wordOk, this]; omega), rfl⟩

theorem ValidWord_any (s : ByteArray) (w : World) (hs : s.size ≤ maxLen) :
    Calls Try.prog 94 #[.string s] w fun e w' => e = .returned (.bool (wordOk s)) ∧ w = w' := by
  unfold maxLen at hs
  go_enter Try.func94, Try.ntmps94
  go_wp2_with fail
  go_loop [6] (fun i => ∃ k : Nat, k ≤ s.size ∧ i = .int .i64 k ∧ Hid ((s.data.toList.take k).all letOk = true)) (fun i => s.size - (intOf i).toNat)
  case atStart => exact ⟨0, Nat.zero_le _, rfl, by simp [Hid]⟩
  case round =>
    obtain ⟨k, hk, rfl, H⟩ := hrel
    by_cases hlt : k < s.size
    · go_wp2_with (first | (go_at_call 175; go_must (refine (isLetter_any _ _).mono ?_); rintro e w' ⟨rfl, rfl⟩))
      · go_ret
        exact ⟨ret_bool (by have := all_bad hlt (letOk_bad ‹_›); simp [wordOk, this]), rfl⟩
      · have h1 := letOk_good (c := s[k]) ‹_›
        go_round
        case rel => exact ⟨k + 1, by omega, by go_num, all_step hlt H.out h1⟩
        case measure => simp [intOf]; omega
    · go_wp2
      go_ret
      exact ⟨ret_bool (by have := all_end (by omega) H.out; simp [wordOk, this]), rfl⟩

set_option maxHeartbeats 1000000 in
theorem l02Rule_any (b o : Nat) (r : GRule) (i : Nat) (w : World) (h0 : w.cell? ⟨b, o, none⟩ = some (.string r.letter)) (h1 : w.cell? ⟨b, o + 1, none⟩ = some (.int .i64 r.left)) (h2 : w.cell? ⟨b, o + 2, none⟩ = some (.int .i64 r.right)) (hi : i ≤ 1099511627776) (hs : r.letter.size ≤ maxLen) :
    Calls Try.prog 243 #[.pointer (some ⟨b, o, none⟩), .int .i64 i] w fun e w' => e = .returned (.bool (okRule i r)) ∧ w = w' := by
  have Hs := Lib.hid hs
  clear hs
  go_enter Try.func243, Try.ntmps243
  go_wp2_with (first
    | (go_at_call 86; go_must (refine (l01Ok_any _ _ Hs.out).mono ?_); rintro e w' ⟨rfl, rfl⟩)
    | (go_at_call 120; go_must (refine (l00In_any _ _ _ _).mono ?_); rintro e w' ⟨rfl, rfl⟩))
  · have e : okRule i r = (r.right == 0) := by
      rw [okl_eq ‹_›, ← wordOk_one (by omega), ‹wordOk r.letter = true›, ‹r.left = 0›]; simp
    go_ret
    exact ⟨ret_bool e.symm, rfl⟩
  · have e : okRule i r = false := by
      rw [okl_eq ‹_›]; simp [‹¬ r.left = 0›]
    go_ret
    exact ⟨ret_bool e.symm, rfl⟩
  · have e : okRule i r = false := by
      rw [okl_eq ‹_›, ← wordOk_one (by omega)]; simp [‹¬ wordOk r.letter = true›]
    go_ret
    exact ⟨ret_bool e.symm, rfl⟩
  · have e : okRule i r = false := by
      rw [okl_eq ‹_›, isLet_not ‹_›]; simp
    go_ret
    exact ⟨ret_bool e.symm, rfl⟩
  · have h : 0 ≤ r.left ∧ r.left ≤ (i : Int) - 1 := by assumption
    have e : okRule i r = (decide (0 ≤ r.right) && decide (r.right ≤ (i : Int) - 1)) := by
      rw [okp_eq ‹_›]; simp [h.1, h.2]
    go_ret
    exact ⟨ret_bool e.symm, rfl⟩
  · have h : ¬ (0 ≤ r.left ∧ r.left ≤ (i : Int) - 1) := by assumption
    have e : okRule i r = false := by
      rw [okp_eq ‹_›, Bool.and_eq_false_iff, Bool.and_eq_false_iff, Bool.and_eq_false_iff]; simp; omega
    go_ret
    exact ⟨ret_bool e.symm, rfl⟩

end Go.Proofs.Ytoemoifeiigkoaa
