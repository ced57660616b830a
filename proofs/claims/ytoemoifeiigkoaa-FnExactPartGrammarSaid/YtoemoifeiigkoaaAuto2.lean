import Derived.Test.YtoemoifeiigkoaaAuto
import Derived.Test.YtoemoifeiigkoaaLTurn
namespace Go.Proofs.Ytoemoifeiigkoaa
open Go.RowKit

theorem within_yes (n a b : Int) (w : World) (h : inR n a b = true) : Calls Try.prog 78 #[.int .i64 n, .int .i64 a, .int .i64 b] w fun e w' => e = .returned (.bool true) ∧ w = w' :=
  (within_any n a b w).mono fun _ _ ⟨he, hw⟩ => ⟨by rw [he, ← h]; rfl, hw⟩
theorem within_no (n a b : Int) (w : World) (h : inR n a b = false) : Calls Try.prog 78 #[.int .i64 n, .int .i64 a, .int .i64 b] w fun e w' => e = .returned (.bool false) ∧ w = w' :=
  (within_any n a b w).mono fun _ _ ⟨he, hw⟩ => ⟨by rw [he, ← h]; rfl, hw⟩

theorem isMachine_no (states start : Int) (v : Value) (w : World) (h : inR states 1 24 = false) (hv : ∃ A n c, v = .slice A n c) :
    Calls Try.prog 194 #[.int .i64 states, .int .i64 start, v] w fun e w' => e = .returned (.bool false) ∧ Below w.heap.size w w' := by
  obtain ⟨A, n, c, rfl⟩ := hv
  have H := Lib.hid h
  clear h
  go_enter Try.func194, Try.ntmps194
  go_wp2_with fail
  refine (within_no _ _ _ _ H.out).mono ?_
  rintro e w' ⟨rfl, rfl⟩
  go_wp2_with fail
  go_ret
  exact ⟨rfl, (by repeat (first | exact Below.refl _ _ | (refine Below.alloc ?_ (by first | omega | (simp; done) | (simp; omega)) _) | refine below_drewN ?_ _ | refine Below.drew ?_))⟩

theorem isMachine_any (states start : Int) (v : Value) (next : List (List Int)) (w : World) (h : Sl (SliceE IntE) w w.heap.size v next) (hS : inR states 1 24 = true) :
    Calls Try.prog 194 #[.int .i64 states, .int .i64 start, v] w fun e w' => e = .returned (.bool (inR start 0 (states - 1) && nextOk states next)) ∧ Below w.heap.size w w' := by
  have h1 : 1 ≤ states ∧ states ≤ 24 := by simpa [inR] using hS
  obtain ⟨h1, h2⟩ := h1
  have HS := Lib.hid hS
  have H := Lib.hid h
  clear hS
  obtain ⟨A, c, rfl, hc', hm, _⟩ := h
  unfold maxLen at hm
  have hmf : ∀ (fn : Fn) (first cap : Array Value) (w : World), (Instr.makeFunc fn first cap).run Try.prog w = .ok (.func fn first cap) w := fun _ _ _ _ => rfl
  by_cases c1 : inR start 0 (states - 1) = true
  · have C1 := Lib.hid c1
    clear c1
    by_cases c2 : (next.length : Int) = states
    · have g2 : ((next.length : Int) == states) = true := by simp [c2]
      have C2 := Lib.hid c2
      clear c2
      go_enter Try.func194, Try.ntmps194
      go_wp2_with fail
      refine (within_yes _ _ _ _ HS.out).mono ?_
      rintro e w' ⟨rfl, rfl⟩
      go_wp2_with fail
      refine (within_yes _ _ _ _ C1.out).mono ?_
      rintro e w' ⟨rfl, rfl⟩
      go_wp2_with fail
      refine (ContainsRows_any _ next _ _ (fun s => !rowOk states s) _ ((H.out.below ((by repeat (first | exact Below.refl _ _ | (refine Below.alloc ?_ (by first | omega | (simp; done) | (simp; omega)) _) | refine below_drewN ?_ _ | refine Below.drew ?_)))).le (by first | omega | (simp; done) | (simp; omega))) (enters_of Try.func250 (by kernel_rfl) rfl) ?_).mono ?_
      · intro W u x hW hx hs
        exact (machCl1_any u x states w.heap.size W hs (Nat.lt_of_lt_of_le (by simp) hW.size) ((hW.cell (p := ⟨w.heap.size, 0, none⟩) (by simp)).trans (by simp [go_sem])) h1 h2)
      · rintro e w2 ⟨rfl, hb2⟩
        go_wp2_with fail
        go_ret
        exact ⟨ret_bool (by rw [C1.out, nextOk, C2.out]; simp), ((Below.refl _ _).alloc (Nat.le_refl _) _).trans (hb2.mono (by simp))⟩
    · have g2 : ((next.length : Int) == states) = false := by simp [c2]
      have C2 := Lib.hid g2
      clear c2
      go_enter Try.func194, Try.ntmps194
      go_wp2_with fail
      refine (within_yes _ _ _ _ HS.out).mono ?_
      rintro e w' ⟨rfl, rfl⟩
      go_wp2_with fail
      refine (within_yes _ _ _ _ C1.out).mono ?_
      rintro e w' ⟨rfl, rfl⟩
      go_wp2_with fail
      go_ret
      exact ⟨ret_bool (by rw [C1.out, nextOk, C2.out]; simp), (by repeat (first | exact Below.refl _ _ | (refine Below.alloc ?_ (by first | omega | (simp; done) | (simp; omega)) _) | refine below_drewN ?_ _ | refine Below.drew ?_))⟩
  · have c1' : inR start 0 (states - 1) = false := by simpa using c1
    have C1 := Lib.hid c1'
    clear c1 c1'
    go_enter Try.func194, Try.ntmps194
    go_wp2_with fail
    refine (within_yes _ _ _ _ HS.out).mono ?_
    rintro e w' ⟨rfl, rfl⟩
    go_wp2_with fail
    refine (within_no _ _ _ _ C1.out).mono ?_
    rintro e w' ⟨rfl, rfl⟩
    go_wp2_with fail
    go_ret
    exact ⟨ret_bool (by rw [C1.out]; simp), (by repeat (first | exact Below.refl _ _ | (refine Below.alloc ?_ (by first | omega | (simp; done) | (simp; omega)) _) | refine below_drewN ?_ _ | refine Below.drew ?_))⟩
end Go.Proofs.Ytoemoifeiigkoaa
