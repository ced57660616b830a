import Derived.Test.YthidgjdjijjkoaaEdit2
import Derived.Test.YthidgjdjijjkoaaEdit3
import Derived.Test.YthidgjdjijjkoaaJoin2
namespace Go.Proofs.Ythidgjdjijjkoaa
open Go.RowKit

set_option maxRecDepth 100000 in
theorem l07Less_any (b : Nat) (vR : Value) (e : GEdit) (p : Int) (w : World) (h : EditAt w w.heap.size b e vR) (hp : 0 ≤ p ∧ p ≤ 1000000000000000) (hi : 0 ≤ e.i ∧ e.i ≤ 1000000000000000) (hj : 0 ≤ e.j ∧ e.j ≤ 1000000000000000) :
    Calls Try.prog 136 #[.pointer (some ⟨b, 0, none⟩), .int .i64 p] w fun r w' => r = .returned (.int .i64 (lessP e p)) ∧ Below w.heap.size w w' := by
  obtain ⟨k, i, j, kk, part, map⟩ := e
  obtain ⟨⟨x0, x1, x2, x3, x4, x5⟩, hlt, _⟩ := h
  simp only at x0 x1 x2 x3 x4 x5 hi hj
  have wji : IntKind.i64.wrap (j - i) = j - i := IntWalk.i64_in _ (by omega)
  have wp : IntKind.i64.wrap (p - (j - i)) = p - (j - i) := IntWalk.i64_in _ (by omega)
  by_cases c1 : p ≤ i
  · go_enter Try.func136, Try.ntmps136
    go_wp2_with fail
    go_ret
    exact ⟨ret_int (by simp [lessP, c1]), (by repeat (first | exact Below.refl _ _ | (refine Below.alloc ?_ (by first | omega | (simp; done) | (simp; omega)) _) | refine below_drewN ?_ _ | refine Below.drew ?_))⟩
  · have g1 : decide (p ≤ i) = false := by simp; omega
    by_cases c2 : p < j
    · have C1 := Lib.hid c1
      go_enter Try.func136, Try.ntmps136
      go_wp2_with fail
      go_ret
      exact ⟨ret_int (by unfold lessP; rw [if_neg (by simp only; have := of_decide_eq_false g1; exact this), if_pos c2]), (by repeat (first | exact Below.refl _ _ | (refine Below.alloc ?_ (by first | omega | (simp; done) | (simp; omega)) _) | refine below_drewN ?_ _ | refine Below.drew ?_))⟩
    · have g2 : decide (p < j) = false := by simp; omega
      go_enter Try.func136, Try.ntmps136
      go_wp2_with fail
      try go_quiet (fail)
      go_wp2_with fail
      go_ret
      exact ⟨ret_int (by unfold lessP; rw [if_neg (of_decide_eq_false g1), if_neg (of_decide_eq_false g2)]), (by repeat (first | exact Below.refl _ _ | (refine Below.alloc ?_ (by first | omega | (simp; done) | (simp; omega)) _) | refine below_drewN ?_ _ | refine Below.drew ?_))⟩

def growV (e : GEdit) (n m : Int) : Int := if editLen e n ≤ m then editLen e n else -1
set_option maxRecDepth 100000 in
set_option maxHeartbeats 4000000 in
theorem l07Grows_any (b : Nat) (vR : Value) (e : GEdit) (n m : Int) (w : World) (h : EditAt w w.heap.size b e vR) (he : editOk e = true) (hsm : SmallL e.part) (hn : e.part.length ≤ 1099511627776) (hn0 : 0 ≤ n) (hn1 : n ≤ m) (hm : m ≤ 1000000000000000) (hf : editFits e n = true) :
    Calls Try.prog 102 #[.pointer (some ⟨b, 0, none⟩), .int .i64 n, .int .i64 m] w fun r w' => r = .returned (.int .i64 (growV e n m)) ∧ Below w.heap.size w w' := by
  obtain ⟨g1, g2, g3, g4, g5, g6, g7⟩ := editOk_get he
  clear he
  obtain ⟨k, i, j, kk, part, map⟩ := e
  have HH := Lib.hid h
  obtain ⟨⟨x0, x1, x2, x3, x4, x5⟩, hlt, hR⟩ := h
  have HR := Lib.hid hR
  simp only at g1 g2 g3 g4 g5 g6 g7 hn hsm x0 x1 x2 x3 x4 x5
  have hlb := gramLen_bounds part
  obtain ⟨_, ls, hl⟩ := gram_lens g7
  have Hl := Lib.hid hl
  have hgl := gramLen_of hl
  have wji : IntKind.i64.wrap (j - i) = j - i := IntWalk.i64_in _ (by omega)
  have Hf := Lib.hid hf
  clear hl g7 hf hR
  rcases kind7 g1 with rfl | rfl | rfl | rfl | rfl | rfl | rfl
  · have wn : IntKind.i64.wrap (n + lastI ls) = n + lastI ls := IntWalk.i64_in _ (by omega)
    have HG := Lib.hid hgl
    clear hgl
    by_cases c : n + lastI ls ≤ m
    · have c' : ¬ (m < n + lastI ls) := by omega
      have HC := Lib.hid c
      clear c
      go_enter Try.func102, Try.ntmps102
      go_wp2_with fail
      refine (l02Length_any b 4 _ part ls _ Hl.out x4 hlt HR.out hsm hn).mono ?_
      rintro r w1 ⟨rfl, hb1⟩
      go_wp2_with fail
      go_ret
      exact ⟨ret_int (by simp [growV, editLen, HG.out, HC.out]), hb1⟩
    · have c' : m < n + lastI ls := by omega
      have HC := Lib.hid c
      clear c
      go_enter Try.func102, Try.ntmps102
      go_wp2_with fail
      refine (l02Length_any b 4 _ part ls _ Hl.out x4 hlt HR.out hsm hn).mono ?_
      rintro r w1 ⟨rfl, hb1⟩
      go_wp2_with fail
      go_ret
      exact ⟨ret_int (by rw [growV, if_neg (by simpa [editLen, HG.out] using HC.out)]), hb1⟩
  · have hij := g5 (by omega)
    have wn : IntKind.i64.wrap (n - (j - i)) = n - (j - i) := IntWalk.i64_in _ (by omega)
    have c' : ¬ (m < n - (j - i)) := by omega
    have HC := Lib.hid (show n - (j - i) ≤ m by omega)
    go_enter Try.func102, Try.ntmps102
    go_wp2_with fail
    go_quiet (fail)
    go_wp2_with fail
    go_ret
    exact ⟨ret_int (by simp [growV, editLen, HC.out]), (by repeat (first | exact Below.refl _ _ | (refine Below.alloc ?_ (by first | omega | (simp; done) | (simp; omega)) _) | refine below_drewN ?_ _ | refine Below.drew ?_))⟩
  · have hij := g5 (by omega)
    have wn : IntKind.i64.wrap (n + (j - i)) = n + (j - i) := IntWalk.i64_in _ (by omega)
    by_cases c : n + (j - i) ≤ m
    · have c' : ¬ (m < n + (j - i)) := by omega
      have HC := Lib.hid c
      clear c
      go_enter Try.func102, Try.ntmps102
      go_wp2_with fail
      go_quiet (fail)
      go_wp2_with fail
      go_ret
      exact ⟨ret_int (by simp [growV, editLen, HC.out]), (by repeat (first | exact Below.refl _ _ | (refine Below.alloc ?_ (by first | omega | (simp; done) | (simp; omega)) _) | refine below_drewN ?_ _ | refine Below.drew ?_))⟩
    · have c' : m < n + (j - i) := by omega
      have HC := Lib.hid c
      clear c
      go_enter Try.func102, Try.ntmps102
      go_wp2_with fail
      go_quiet (fail)
      go_wp2_with fail
      go_ret
      exact ⟨ret_int (by rw [growV, if_neg (by simpa [editLen] using HC.out)]), (by repeat (first | exact Below.refl _ _ | (refine Below.alloc ?_ (by first | omega | (simp; done) | (simp; omega)) _) | refine below_drewN ?_ _ | refine Below.drew ?_))⟩
  · have c' : ¬ (m < n) := by omega
    have HC := Lib.hid hn1
    go_enter Try.func102, Try.ntmps102
    go_wp2_with fail
    go_ret
    exact ⟨ret_int (by simp [growV, editLen, HC.out]), (by repeat (first | exact Below.refl _ _ | (refine Below.alloc ?_ (by first | omega | (simp; done) | (simp; omega)) _) | refine below_drewN ?_ _ | refine Below.drew ?_))⟩
  · have c' : ¬ (m < n) := by omega
    have HC := Lib.hid hn1
    go_enter Try.func102, Try.ntmps102
    go_wp2_with fail
    go_ret
    exact ⟨ret_int (by simp [growV, editLen, HC.out]), (by repeat (first | exact Below.refl _ _ | (refine Below.alloc ?_ (by first | omega | (simp; done) | (simp; omega)) _) | refine below_drewN ?_ _ | refine Below.drew ?_))⟩
  · have hij := g5 (by omega)
    have hfit : j ≤ n := by simpa [editFits] using Hf.out
    have wn : IntKind.i64.wrap (n - (j - i)) = n - (j - i) := IntWalk.i64_in _ (by omega)
    by_cases c0 : i < j
    · have hd := div_le (m := m - (n - (j - i))) (p := j - i) (k := kk) (by omega)
      have Hd := Lib.hid hd
      have hz : (j - i) ≠ 0 := by omega
      have c0' : decide (i < j) = true := by simp [c0]
      have wm : IntKind.i64.wrap (m - (n - (j - i))) = m - (n - (j - i)) := IntWalk.i64_in _ (by omega)
      by_cases c1 : (m - (n - (j - i))) / (j - i) < kk
      · have c1' : decide ((m - (n - (j - i))) / (j - i) < kk) = true := by simp [c1]
        have hbad : ¬ (n - (j - i) + (j - i) * kk ≤ m) := by
          intro h
          have : kk * (j - i) ≤ m - (n - (j - i)) := by rw [Int.mul_comm]; omega
          have := Hd.out.2 this
          omega
        have Hbad := Lib.hid hbad
        clear hbad hd
        go_enter Try.func102, Try.ntmps102
        go_wp2_with fail
        go_quiet (fail)
        go_wp2_with fail
        go_quiet (fail)
        go_wp2_with fail
        go_ret
        exact ⟨ret_int (by rw [growV, if_neg (by simpa [editLen] using Hbad.out)]), (by repeat (first | exact Below.refl _ _ | (refine Below.alloc ?_ (by first | omega | (simp; done) | (simp; omega)) _) | refine below_drewN ?_ _ | refine Below.drew ?_))⟩
      · have c1' : decide ((m - (n - (j - i))) / (j - i) < kk) = false := by simp; omega
        have hgood : kk * (j - i) ≤ m - (n - (j - i)) := Hd.out.1 (by omega)
        have hlow : 0 ≤ kk * (j - i) := Int.mul_nonneg g4.1 (by omega)
        rw [Int.mul_comm] at hgood hlow
        have wmul : IntKind.i64.wrap ((j - i) * kk) = (j - i) * kk := IntWalk.i64_in _ (by omega)
        have wadd : IntKind.i64.wrap (n - (j - i) + (j - i) * kk) = n - (j - i) + (j - i) * kk := IntWalk.i64_in _ (by omega)
        have hle : decide (m < n - (j - i) + (j - i) * kk) = false := by simp; omega
        have Hg := Lib.hid (show n - (j - i) + (j - i) * kk ≤ m by omega)
        clear hgood hlow hd
        go_enter Try.func102, Try.ntmps102
        go_wp2_with fail
        go_quiet (fail)
        go_wp2_with fail
        go_quiet (fail)
        go_wp2_with fail
        go_ret
        exact ⟨ret_int (by simp [growV, editLen, Hg.out]), (by repeat (first | exact Below.refl _ _ | (refine Below.alloc ?_ (by first | omega | (simp; done) | (simp; omega)) _) | refine below_drewN ?_ _ | refine Below.drew ?_))⟩
    · have hj : j = i := by omega
      subst hj
      have wz : IntKind.i64.wrap (j - j) = 0 := by rw [show j - j = 0 by omega]; rfl
      have ws : j - j = 0 := by omega
      have wn' : IntKind.i64.wrap n = n := IntWalk.i64_in _ (by omega)
      have c' : ¬ (m < n) := by omega
      have HC := Lib.hid hn1
      go_enter Try.func102, Try.ntmps102
      go_wp2_with fail
      go_quiet (fail)
      go_wp2_with fail
      go_quiet (fail)
      go_wp2_with fail
      go_ret
      exact ⟨ret_int (by simp [growV, editLen, HC.out]), (by repeat (first | exact Below.refl _ _ | (refine Below.alloc ?_ (by first | omega | (simp; done) | (simp; omega)) _) | refine below_drewN ?_ _ | refine Below.drew ?_))⟩
  · have c' : ¬ (m < n) := by omega
    have HC := Lib.hid hn1
    go_enter Try.func102, Try.ntmps102
    go_wp2_with fail
    go_ret
    exact ⟨ret_int (by simp [growV, editLen, HC.out]), (by repeat (first | exact Below.refl _ _ | (refine Below.alloc ?_ (by first | omega | (simp; done) | (simp; omega)) _) | refine below_drewN ?_ _ | refine Below.drew ?_))⟩
end Go.Proofs.Ythidgjdjijjkoaa
