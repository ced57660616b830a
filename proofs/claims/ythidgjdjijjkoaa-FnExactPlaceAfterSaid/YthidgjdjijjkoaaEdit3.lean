import Derived.Test.YthidgjdjijjkoaaEdit1
namespace Go.Proofs.Ythidgjdjijjkoaa
open Go.RowKit

set_option maxRecDepth 100000 in
set_option maxHeartbeats 2000000 in
theorem fits_any (v : Value) (e : GEdit) (n : Int) (w : World) (h : EditV w w.heap.size v e) (hk : inR e.kind 1 7 = true) (hij : 2 ≤ e.kind → e.i ≤ e.j) :
    Calls Try.prog 105 #[v, .int .i64 n] w fun r w' => r = .returned (.bool (editFits e n)) ∧ Below w.heap.size w w' := by
  obtain ⟨k, i, j, kk, part, map⟩ := e
  obtain ⟨vR, rfl, hR⟩ := h
  obtain ⟨AR, cR, rfl, _⟩ := hR
  simp only at hk hij
  rcases kind7 hk with rfl | rfl | rfl | rfl | rfl | rfl | rfl <;>
  · have Hij := Lib.hid hij
    clear hij hk
    go_enter Try.func105, Try.ntmps105
    go_wp2
    all_goals
      go_ret
      refine ⟨ret_bool ?_, (by repeat (first | exact Below.refl _ _ | (refine Below.alloc ?_ (by first | omega | (simp; done) | (simp; omega)) _) | refine below_drewN ?_ _ | refine Below.drew ?_))⟩
      have := Hij.out
      rw [Bool.eq_iff_iff]
      simp [editFits] at *
      try omega

/-- What grows answers. -/
def GrowsPost (e : GEdit) (n : Int) (w : World) (r : Ending) (w' : World) : Prop :=
  ∃ out, r = .returned (.tuple #[.int .i64 out, .bool (decide (editLen e n ≤ 1000000000000000))]) ∧ (editLen e n ≤ 1000000000000000 → out = editLen e n - n) ∧ Below w.heap.size w w'
theorem div_le {m p k : Int} (hp : 0 < p) : (k ≤ m / p) ↔ k * p ≤ m := Int.le_ediv_iff_mul_le hp
set_option maxRecDepth 100000 in
set_option maxHeartbeats 2000000 in
theorem grows_any (v : Value) (e : GEdit) (n : Int) (w : World) (h : EditV w w.heap.size v e) (he : editOk e = true) (hn : e.part.length ≤ 1099511627776) (hn0 : 0 ≤ n) (hn1 : n ≤ 1000000000000000) (hf : editFits e n = true) :
    Calls Try.prog 106 #[v, .int .i64 n] w (GrowsPost e n w) := by
  obtain ⟨g1, g2, g3, g4, g5, g6, g7⟩ := editOk_get he
  clear he
  have H1 := fun o => (h.below ((Below.refl w.heap.size w).alloc (Nat.le_refl _) o)).le (B' := (w.alloc o).heap.size) (by simp)
  obtain ⟨k, i, j, kk, part, map⟩ := e
  obtain ⟨vR, rfl, hR⟩ := h
  have HR := fun o => (hR.below ((Below.refl w.heap.size w).alloc (Nat.le_refl _) o)).le (B' := (w.alloc o).heap.size) (by simp)
  have HR := Lib.hid HR
  obtain ⟨AR, cR, rfl, _⟩ := hR
  simp only at g1 g2 g3 g4 g5 g6 g7 hn
  clear H1
  have G7 := Lib.hid g7
  have wji : IntKind.i64.wrap (j - i) = j - i := IntWalk.i64_in _ (by omega)
  have wm : IntKind.i64.wrap (1000000000000000 - n) = 1000000000000000 - n := IntWalk.i64_in _ (by omega)
  have wk : IntKind.i64.wrap (kk - 1) = kk - 1 := IntWalk.i64_in _ (by omega)
  have hlb := gramLen_bounds part
  rcases kind7 g1 with rfl | rfl | rfl | rfl | rfl | rfl | rfl
  · have wn : IntKind.i64.wrap (n + gramLen part) = n + gramLen part := IntWalk.i64_in _ (by omega)
    have hv : lenV part = gramLen part := by rw [lenV, if_pos g7]
    have Hv := Lib.hid hv
    clear hv g7
    go_enter Try.func106, Try.ntmps106
    go_wp2_with fail
    refine (LengthOf_any _ part _ (HR.out _) hn).mono ?_
    rintro r w1 ⟨rfl, hb1⟩
    rw [Hv.out]
    have HB := Lib.hid (((Below.refl w.heap.size w).alloc (Nat.le_refl _) _).trans (hb1.mono (by simp)))
    clear hb1
    go_wp2_with fail
    go_ret2
    exact ⟨gramLen part, by simp [editLen], fun _ => by simp [editLen]; omega, HB.out⟩
  · clear HR g7
    have hij := g5 (by omega)
    have wn : IntKind.i64.wrap (n + -(j - i)) = n + -(j - i) := IntWalk.i64_in _ (by omega)
    have wg : IntKind.i64.wrap (-(j - i)) = -(j - i) := IntWalk.i64_in _ (by omega)
    go_enter Try.func106, Try.ntmps106
    go_wp2_with fail
    go_ret2
    exact ⟨-(j - i), by simp [editLen]; omega, fun _ => by simp [editLen]; omega, (by repeat (first | exact Below.refl _ _ | (refine Below.alloc ?_ (by first | omega | (simp; done) | (simp; omega)) _) | refine below_drewN ?_ _ | refine Below.drew ?_))⟩
  · clear HR g7
    have hij := g5 (by omega)
    have wn : IntKind.i64.wrap (n + (j - i)) = n + (j - i) := IntWalk.i64_in _ (by omega)
    go_enter Try.func106, Try.ntmps106
    go_wp2_with fail
    go_ret2
    exact ⟨j - i, by simp [editLen], fun _ => by simp [editLen]; omega, (by repeat (first | exact Below.refl _ _ | (refine Below.alloc ?_ (by first | omega | (simp; done) | (simp; omega)) _) | refine below_drewN ?_ _ | refine Below.drew ?_))⟩
  · clear HR g7
    go_enter Try.func106, Try.ntmps106
    go_wp2_with fail
    go_ret2
    exact ⟨0, by simp [editLen]; try omega, fun _ => by simp [editLen], (by repeat (first | exact Below.refl _ _ | (refine Below.alloc ?_ (by first | omega | (simp; done) | (simp; omega)) _) | refine below_drewN ?_ _ | refine Below.drew ?_))⟩
  · clear HR g7
    go_enter Try.func106, Try.ntmps106
    go_wp2_with fail
    go_ret2
    exact ⟨0, by simp [editLen]; try omega, fun _ => by simp [editLen], (by repeat (first | exact Below.refl _ _ | (refine Below.alloc ?_ (by first | omega | (simp; done) | (simp; omega)) _) | refine below_drewN ?_ _ | refine Below.drew ?_))⟩
  · clear HR g7
    have hij := g5 (by omega)
    by_cases c0 : 0 < j - i
    · have hd := div_le (m := 1000000000000000 - n) (p := j - i) (k := kk - 1) c0
      have Hd := Lib.hid hd
      have hz : (j - i) ≠ 0 := by omega
      have c0' : decide (i < j) = true := by simp; omega
      have c0'' : i < j := by omega
      by_cases c1 : ((1000000000000000 - n) / (j - i)) < kk - 1
      · have c1' : decide (((1000000000000000 - n) / (j - i)) < kk - 1) = true := by simp [c1]
        have hbad : ¬ (n - (j - i) + (j - i) * kk ≤ 1000000000000000) := by
          intro h
          have : (kk - 1) * (j - i) ≤ 1000000000000000 - n := by rw [Int.sub_mul, Int.mul_comm kk]; omega
          have := Hd.out.2 this
          omega
        have Hbad := Lib.hid hbad
        clear hbad hd
        go_enter Try.func106, Try.ntmps106
        go_wp2_with fail
        go_quiet (fail)
        go_wp2_with fail
        go_ret2
        exact ⟨0, by simp [editLen, Hbad.out], fun h => absurd h (by simpa [editLen] using Hbad.out), (by repeat (first | exact Below.refl _ _ | (refine Below.alloc ?_ (by first | omega | (simp; done) | (simp; omega)) _) | refine below_drewN ?_ _ | refine Below.drew ?_))⟩
      · have c1' : decide (((1000000000000000 - n) / (j - i)) < kk - 1) = false := by simp; omega
        have hgood : (kk - 1) * (j - i) ≤ 1000000000000000 - n := Hd.out.1 (by omega)
        have hlow : -(j - i) ≤ (kk - 1) * (j - i) := by
          have := Int.mul_nonneg g4.1 (show 0 ≤ j - i by omega)
          rw [Int.sub_mul]; omega
        have wmul : IntKind.i64.wrap ((kk - 1) * (j - i)) = (kk - 1) * (j - i) := IntWalk.i64_in _ (by omega)
        have wadd : IntKind.i64.wrap (n + (kk - 1) * (j - i)) = n + (kk - 1) * (j - i) := IntWalk.i64_in _ (by omega)
        have hle : decide (n + (kk - 1) * (j - i) ≤ 1000000000000000) = true := by simp; omega
        have hE : n - (j - i) + (j - i) * kk = n + (kk - 1) * (j - i) := by rw [Int.mul_comm (j - i) kk, Int.sub_mul]; omega
        have HE := Lib.hid hE
        have Hg := Lib.hid hgood
        clear hE hgood hlow hd
        go_enter Try.func106, Try.ntmps106
        go_wp2_with fail
        go_quiet (fail)
        go_wp2_with fail
        go_ret2
        have hx := Hg.out
        exact ⟨(kk - 1) * (j - i), by simp [editLen, HE.out]; omega, fun _ => by simp [editLen, HE.out]; omega, (by repeat (first | exact Below.refl _ _ | (refine Below.alloc ?_ (by first | omega | (simp; done) | (simp; omega)) _) | refine below_drewN ?_ _ | refine Below.drew ?_))⟩
    · have hz : j - i = 0 := by omega
      have hj : j = i := by omega
      subst hj
      have wz : IntKind.i64.wrap (j - j) = 0 := by rw [show j - j = 0 by omega]; rfl
      have ws : j - j = 0 := by omega
      go_enter Try.func106, Try.ntmps106
      go_wp2_with fail
      go_quiet (fail)
      go_wp2_with fail
      go_ret2
      exact ⟨0, by simp [editLen]; try omega, fun _ => by simp [editLen], (by repeat (first | exact Below.refl _ _ | (refine Below.alloc ?_ (by first | omega | (simp; done) | (simp; omega)) _) | refine below_drewN ?_ _ | refine Below.drew ?_))⟩
  · clear HR g7
    go_enter Try.func106, Try.ntmps106
    go_wp2_with fail
    go_ret2
    exact ⟨0, by simp [editLen]; try omega, fun _ => by simp [editLen], (by repeat (first | exact Below.refl _ _ | (refine Below.alloc ?_ (by first | omega | (simp; done) | (simp; omega)) _) | refine below_drewN ?_ _ | refine Below.drew ?_))⟩
end Go.Proofs.Ythidgjdjijjkoaa
