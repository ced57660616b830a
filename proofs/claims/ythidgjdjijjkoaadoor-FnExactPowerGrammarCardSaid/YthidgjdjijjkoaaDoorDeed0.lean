import Derived.Test.YthidgjdjijjkoaaDoorA1
namespace Go.Proofs.YthidgjdjijjkoaaDoor
open Go.RowKit

def deedN (k : Int) : Int := if k = 1 then 2 else if k = 4 then 3 else if k = 5 then 2 else 1
def deedOk (k a b c : Int) : Bool :=
  decide (1 ≤ k) && decide (k ≤ 9) && (decide (0 ≤ a) && decide (a ≤ 999)) && (decide (0 ≤ b) && decide (b ≤ 999)) && (decide (0 ≤ c) && decide (c ≤ 999)) && (decide (1 < deedN k) || b == 0) && (decide (2 < deedN k) || c == 0)

set_option maxHeartbeats 4000000 in
theorem l08Fields_any (k : Int) (w : World) (h : 1 ≤ k ∧ k ≤ 9) :
    Calls Tryd.prog 18 #[.int .i64 k] w fun e w' => e = .returned (.int .i64 (deedN k)) ∧ ∃ cs t, w.alloc (.cells cs t) = w' := by
  have : k = 1 ∨ k = 2 ∨ k = 3 ∨ k = 4 ∨ k = 5 ∨ k = 6 ∨ k = 7 ∨ k = 8 ∨ k = 9 := by omega
  rcases this with rfl | rfl | rfl | rfl | rfl | rfl | rfl | rfl | rfl <;>
  · go_enter Tryd.func18, Tryd.ntmps18
    go_wp2
    go_ret
    exact ⟨rfl, _, _, rfl⟩

def DeedWord (k : Int) (w : World) (e : Ending) (w' : World) : Prop :=
  ∃ s, e = .returned (.tuple #[.string s, .int .i64 (if 1 ≤ k ∧ k ≤ 9 then deedN k else 0)]) ∧ s.toList.isEmpty = (!decide (1 ≤ k) || !decide (k ≤ 9)) ∧ w = w'
set_option maxHeartbeats 1000000 in
theorem deedWord_any (k : Int) (w : World) : Calls Tryd.prog 20 #[.int .i64 k] w (DeedWord k w) := by
  by_cases h : 1 ≤ k ∧ k ≤ 9
  · have : k = 1 ∨ k = 2 ∨ k = 3 ∨ k = 4 ∨ k = 5 ∨ k = 6 ∨ k = 7 ∨ k = 8 ∨ k = 9 := by omega
    rcases this with rfl | rfl | rfl | rfl | rfl | rfl | rfl | rfl | rfl <;>
    · clear h
      go_enter Tryd.func20, Tryd.ntmps20
      go_wp2
      go_ret2
      exact ⟨_, rfl, by rw [ByteArray.toList_eq]; rfl, rfl⟩
  · have h1 : (k == 1) = false := by simp; omega
    have h2 : (k == 2) = false := by simp; omega
    have h3 : (k == 3) = false := by simp; omega
    have h4 : (k == 4) = false := by simp; omega
    have h5 : (k == 5) = false := by simp; omega
    have h6 : (k == 6) = false := by simp; omega
    have h7 : (k == 7) = false := by simp; omega
    have h8 : (k == 8) = false := by simp; omega
    have h9 : (k == 9) = false := by simp; omega
    have H := Lib.hid h
    clear h
    go_enter Tryd.func20, Tryd.ntmps20
    go_wp2
    go_ret2
    have h := H.out
    refine ⟨_, by rw [if_neg h]; rfl, ?_, rfl⟩
    rw [ByteArray.toList_eq]
    by_cases ha : 1 ≤ k
    · have hb : ¬ k ≤ 9 := fun hb => h ⟨ha, hb⟩
      simp [ha, hb]
    · simp [ha]

set_option maxHeartbeats 1000000 in
theorem specValidDeed_any (k a b c : Int) (w : World) :
    Calls Tryd.prog 15 #[.agg #[.int .i64 k, .int .i64 a, .int .i64 b, .int .i64 c]] w fun e w' => e = .returned (.bool (deedOk k a b c)) ∧ Below w.heap.size w w' := by
  go_enter Tryd.func15, Tryd.ntmps15
  go_wp2_with (first
        | (go_at_call 24; refine (l00In_any _ _ _ _).mono ?_; rintro e w' ⟨rfl, rfl⟩)
        | (go_at_call 18; refine (l08Fields_any _ _ (by omega)).mono ?_; rintro e w' ⟨rfl, cs, t, rfl⟩))
  all_goals
    go_ret
    refine ⟨?_, (by repeat (first | exact (Below.refl _ _) | (refine Below.alloc ?_ (by first | omega | (simp; done) | (simp; omega)) _) | refine below_drewN ?_ _ | refine Below.drew ?_))⟩
    refine ret_bool ?_
    rw [Bool.eq_iff_iff]
    simp [deedOk] at *
    try omega

set_option maxHeartbeats 1000000 in
theorem implValidDeed_any (k a b c : Int) (w : World) :
    Calls Tryd.prog 19 #[.agg #[.int .i64 k, .int .i64 a, .int .i64 b, .int .i64 c]] w fun e w' => e = .returned (.bool (deedOk k a b c)) ∧ Below w.heap.size w w' := by
  by_cases h : 1 ≤ k ∧ k ≤ 9
  · have hd : (if 1 ≤ k ∧ k ≤ 9 then deedN k else 0) = deedN k := if_pos h
    have H := Lib.hid hd
    clear hd
    go_enter Tryd.func19, Tryd.ntmps19
    go_wp2_with (first
        | (go_at_call 29; refine (within_any _ _ _ _).mono ?_; rintro e w' ⟨rfl, rfl⟩)
        | (go_at_call 20; refine (deedWord_any _ _).mono ?_; rintro e w' ⟨s, rfl, hs, rfl⟩; rw [H.out]; simp only [h.1, h.2, decide_true, Bool.not_true, Bool.or_false] at hs))
    all_goals
      go_ret
      refine ⟨?_, (by repeat (first | exact (Below.refl _ _) | (refine Below.alloc ?_ (by first | omega | (simp; done) | (simp; omega)) _) | refine below_drewN ?_ _ | refine Below.drew ?_))⟩
      refine ret_bool ?_
      rw [Bool.eq_iff_iff]
      clear H
      simp [deedOk] at *
      try omega
  · have hd : (!decide (1 ≤ k) || !decide (k ≤ 9)) = true := by simp; omega
    have H := Lib.hid hd
    have H2 := Lib.hid h
    clear hd h
    go_enter Tryd.func19, Tryd.ntmps19
    go_wp2_with (first
        | (go_at_call 29; refine (within_any _ _ _ _).mono ?_; rintro e w' ⟨rfl, rfl⟩)
        | (go_at_call 20; refine (deedWord_any _ _).mono ?_; rintro e w' ⟨s, rfl, hs, rfl⟩; rw [H.out] at hs))
    all_goals
      go_ret
      refine ⟨?_, (by repeat (first | exact (Below.refl _ _) | (refine Below.alloc ?_ (by first | omega | (simp; done) | (simp; omega)) _) | refine below_drewN ?_ _ | refine Below.drew ?_))⟩
      refine ret_bool ?_
      have h := H2.out
      rw [Bool.eq_iff_iff]
      clear H H2
      simp [deedOk] at *
      try omega

theorem toDeed_any (k a b c : Int) (w : World) :
    Calls Tryd.prog 6 #[.agg #[.int .i64 k, .int .i64 a, .int .i64 b, .int .i64 c]] w fun e w' => e = .returned (.agg #[.int .i64 k, .int .i64 a, .int .i64 b, .int .i64 c]) ∧ Below w.heap.size w w' := by
  go_enter Tryd.func6, Tryd.ntmps6
  go_wp2
  exact bodyPost_ret (v := .agg #[.int .i64 k, .int .i64 a, .int .i64 b, .int .i64 c]) (by simp [results, Tryd.results6, go_sem]) rfl ⟨rfl, (by repeat (first | exact (Below.refl _ _) | (refine Below.alloc ?_ (by first | omega | (simp; done) | (simp; omega)) _) | refine below_drewN ?_ _ | refine Below.drew ?_))⟩
end Go.Proofs.YthidgjdjijjkoaaDoor
