import Derived.Test.YtoemoifeiigkoaaAuto2
namespace Go.Proofs.Ytoemoifeiigkoaa
open Go.RowKit

/-- The value v reads as the automaton a, below block B. -/
def AutoV (w : World) (B : Nat) (v : Value) (a : GAuto) : Prop := ∃ vF vN, v = .agg #[.int .i64 a.states, .int .i64 a.start, vF, vN] ∧ Sl IntE w B vF a.finals ∧ Sl (SliceE IntE) w B vN a.next
theorem AutoV.below {w w' : World} {B : Nat} {v : Value} {a : GAuto} (h : AutoV w B v a) (hb : Below B w w') : AutoV w' B v a := by
  obtain ⟨vF, vN, rfl, h1, h2⟩ := h
  exact ⟨vF, vN, rfl, h1.below hb, h2.below hb⟩
theorem AutoV.le {w : World} {B B' : Nat} {v : Value} {a : GAuto} (h : AutoV w B v a) (hb : B ≤ B') : AutoV w B' v a := by
  obtain ⟨vF, vN, rfl, h1, h2⟩ := h
  exact ⟨vF, vN, rfl, h1.le hb, h2.le hb⟩
theorem AutoV.up {w0 w : World} {v : Value} {a : GAuto} (h : AutoV w0 w0.heap.size v a) (hb : Below w0.heap.size w0 w) : AutoV w w.heap.size v a := (h.below hb).le hb.size

theorem ValidAuto_yes (v : Value) (a : GAuto) (w : World) (h : AutoV w w.heap.size v a) (hS : inR a.states 1 24 = true) :
    Calls Try.prog 111 #[v] w fun e w' => e = .returned (.bool (autoOk a)) ∧ Below w.heap.size w w' := by
  obtain ⟨states, start, finals, next⟩ := a
  obtain ⟨vF, vN, rfl, hF, hN⟩ := h
  simp only at hF hN hS ⊢
  have h1 : 1 ≤ states ∧ states ≤ 24 := by simpa [inR] using hS
  obtain ⟨h1, h2⟩ := h1
  have HS := Lib.hid hS
  have HN := Lib.hid hN
  clear hS hN
  obtain ⟨A, c, rfl, hc, hm, hrow⟩ := hF
  obtain ⟨AN, cN, rfl, _⟩ := HN.out
  unfold maxLen at hm
  have hn : finals.length ≤ 9223372036854775807 := by omega
  clear hm
  go_enter Try.func111, Try.ntmps111
  go_wp2_with fail
  go_loop [8] (fun i => ∃ (k : Nat), k ≤ finals.length ∧ i = .int .i64 k ∧ Hid (∀ i, i < k → (inR (finals.getD i 0) 0 (states - 1) && (i == 0 || decide (finals.getD (i - 1) 0 < finals.getD i 0))) = true)) (fun i => finals.length - (intOf i).toNat)
  case atStart => exact ⟨0, Nat.zero_le _, rfl, fun i hi => absurd hi (by omega)⟩
  case round =>
    obtain ⟨k, hk, rfl, HA⟩ := hrel
    by_cases hlt : k < finals.length
    · obtain ⟨b, o, rfl, hbl, hcell⟩ := hrow.int hlt
      have hc0 := hcell k hlt
      have hc1 : 0 < k → w.cell? ⟨b, o + (k - 1), none⟩ = some (.int .i64 (finals.getD (k - 1) 0)) := fun h => hcell (k - 1) (by omega)
      have hki : (k : Int) < (finals.length : Int) := by omega
      clear hcell
      generalize hx : finals.getD k 0 = x at *
      have Hx := Lib.hid hx
      clear hx
      by_cases c1 : inR x 0 (states - 1) = true
      · have C1 := Lib.hid c1
        clear c1
        by_cases c2 : k = 0
        · have C2 := Lib.hid c2
          have g2 : decide (0 < k) = false := by simp [c2]
          clear c2 hc1
          go_wp2_with fail
          refine (within_yes _ _ _ _ C1.out).mono ?_
          rintro e w' ⟨rfl, rfl⟩
          go_wp2_with fail
          go_round
          case rel => exact ⟨k + 1, by omega, by go_num, fun i hi => by
            obtain rfl : i = k := by have := C2.out; omega
            rw [Hx.out, C1.out, C2.out]; rfl⟩
          case measure => simp [intOf]; omega
        · have C2 := Lib.hid c2
          have g2 : decide (0 < k) = true := by simp; omega
          have hc2 := hc1 (by omega)
          have hkl : 0 ≤ (k : Int) - 1 := by omega
          have hkk : ((k : Int) - 1).toNat = k - 1 := by omega
          clear c2 hc1
          generalize hy : finals.getD (k - 1) 0 = y at *
          have Hy := Lib.hid hy
          clear hy
          by_cases c3 : y < x
          · have C3 := Lib.hid c3
            have g3 : decide (x ≤ y) = false := by simp; omega
            clear c3
            go_wp2_with fail
            refine (within_yes _ _ _ _ C1.out).mono ?_
            rintro e w' ⟨rfl, rfl⟩
            go_wp2_with fail
            go_round
            case rel => exact ⟨k + 1, by omega, by go_num, fun i hi => by
              rcases Nat.lt_or_ge i k with h | h
              · exact HA.out i h
              · obtain rfl : i = k := by omega
                rw [Hx.out, Hy.out, C1.out]; simp [C3.out]⟩
            case measure => simp [intOf]; omega
          · have C3 := Lib.hid c3
            have g3 : decide (x ≤ y) = true := by simp; omega
            clear c3
            go_wp2_with fail
            refine (within_yes _ _ _ _ C1.out).mono ?_
            rintro e w' ⟨rfl, rfl⟩
            go_wp2_with fail
            go_ret
            exact ⟨ret_bool (by unfold autoOk risesOk; rw [allB_false k hlt (by simp only; rw [Hx.out, Hy.out]; simp [C3.out, C2.out])]; simp), (by repeat (first | exact Below.refl _ _ | (refine Below.alloc ?_ (by first | omega | (simp; done) | (simp; omega)) _) | refine below_drewN ?_ _ | refine Below.drew ?_))⟩
      · have c1' : inR x 0 (states - 1) = false := by simpa using c1
        have C1 := Lib.hid c1'
        clear c1 c1' hc1
        go_wp2_with fail
        refine (within_no _ _ _ _ C1.out).mono ?_
        rintro e w' ⟨rfl, rfl⟩
        go_wp2_with fail
        go_ret
        exact ⟨ret_bool (by unfold autoOk risesOk; rw [allB_false k hlt (by simp only; rw [Hx.out, C1.out]; rfl)]; simp), (by repeat (first | exact Below.refl _ _ | (refine Below.alloc ?_ (by first | omega | (simp; done) | (simp; omega)) _) | refine below_drewN ?_ _ | refine Below.drew ?_))⟩
    · go_wp2_with fail
      refine (isMachine_any _ _ _ next _ ((HN.out.below ((by repeat (first | exact Below.refl _ _ | (refine Below.alloc ?_ (by first | omega | (simp; done) | (simp; omega)) _) | refine below_drewN ?_ _ | refine Below.drew ?_)))).le (by first | omega | (simp; done) | (simp; omega))) HS.out).mono ?_
      rintro e w2 ⟨rfl, hb2⟩
      go_wp2_with fail
      go_ret
      exact ⟨ret_bool (by unfold autoOk risesOk; rw [allB_true fun i hi => HA.out i (by simp only at hi; omega)]; simp [HS.out]), ((Below.refl _ _).alloc (Nat.le_refl _) _).trans (hb2.mono (by simp))⟩

theorem ValidAuto_no (v : Value) (a : GAuto) (w : World) (h : AutoV w w.heap.size v a) (hS : inR a.states 1 24 = false) :
    Calls Try.prog 111 #[v] w fun e w' => e = .returned (.bool (autoOk a)) ∧ Below w.heap.size w w' := by
  obtain ⟨states, start, finals, next⟩ := a
  obtain ⟨vF, vN, rfl, hF, hN⟩ := h
  simp only at hF hN hS ⊢
  have HS := Lib.hid hS
  have Hno : Hid (autoOk { states := states, start := start, finals := finals, next := next } = false) := by simp [Hid, autoOk, hS]
  clear hS
  obtain ⟨A, c, rfl, hc, hm, hrow⟩ := hF
  obtain ⟨AN, cN, rfl, _⟩ := hN
  unfold maxLen at hm
  have hn : finals.length ≤ 9223372036854775807 := by omega
  clear hm
  go_enter Try.func111, Try.ntmps111
  go_wp2_with fail
  go_loop [8] (fun i => ∃ (k : Nat), k ≤ finals.length ∧ i = .int .i64 k) (fun i => finals.length - (intOf i).toNat)
  case atStart => exact ⟨0, Nat.zero_le _, rfl⟩
  case round =>
    obtain ⟨k, hk, rfl⟩ := hrel
    by_cases hlt : k < finals.length
    · obtain ⟨b, o, rfl, hbl, hcell⟩ := hrow.int hlt
      have hc0 := hcell k hlt
      have hc1 : 0 < k → w.cell? ⟨b, o + (k - 1), none⟩ = some (.int .i64 (finals.getD (k - 1) 0)) := fun h => hcell (k - 1) (by omega)
      have hki : (k : Int) < (finals.length : Int) := by omega
      clear hcell
      generalize finals.getD k 0 = x at *
      by_cases c2 : k = 0
      · have C2 := Lib.hid c2
        have g2 : decide (0 < k) = false := by simp [c2]
        clear c2 hc1
        by_cases c1 : inR x 0 (wrap64 (states - 1)) = true
        · have C1 := Lib.hid c1
          clear c1
          go_wp2_with fail
          refine (within_yes _ _ _ _ C1.out).mono ?_
          rintro e w' ⟨rfl, rfl⟩
          go_wp2_with fail
          go_round
          case rel => exact ⟨k + 1, by omega, by go_num⟩
          case measure => simp [intOf]; omega
        · have c1' : inR x 0 (wrap64 (states - 1)) = false := by simpa using c1
          have C1 := Lib.hid c1'
          clear c1 c1'
          go_wp2_with fail
          refine (within_no _ _ _ _ C1.out).mono ?_
          rintro e w' ⟨rfl, rfl⟩
          go_wp2_with fail
          go_ret
          exact ⟨ret_bool Hno.out.symm, (by repeat (first | exact Below.refl _ _ | (refine Below.alloc ?_ (by first | omega | (simp; done) | (simp; omega)) _) | refine below_drewN ?_ _ | refine Below.drew ?_))⟩
      · have C2 := Lib.hid c2
        have g2 : decide (0 < k) = true := by simp; omega
        have hc2 := hc1 (by omega)
        have hkl : 0 ≤ (k : Int) - 1 := by omega
        have hkk : ((k : Int) - 1).toNat = k - 1 := by omega
        clear c2 hc1
        generalize finals.getD (k - 1) 0 = y at *
        by_cases c1 : inR x 0 (wrap64 (states - 1)) = true
        · have C1 := Lib.hid c1
          clear c1
          by_cases c3 : y < x
          · have g3 : decide (x ≤ y) = false := by simp; omega
            clear c3
            go_wp2_with fail
            refine (within_yes _ _ _ _ C1.out).mono ?_
            rintro e w' ⟨rfl, rfl⟩
            go_wp2_with fail
            go_round
            case rel => exact ⟨k + 1, by omega, by go_num⟩
            case measure => simp [intOf]; omega
          · have g3 : decide (x ≤ y) = true := by simp; omega
            clear c3
            go_wp2_with fail
            refine (within_yes _ _ _ _ C1.out).mono ?_
            rintro e w' ⟨rfl, rfl⟩
            go_wp2_with fail
            go_ret
            exact ⟨ret_bool Hno.out.symm, (by repeat (first | exact Below.refl _ _ | (refine Below.alloc ?_ (by first | omega | (simp; done) | (simp; omega)) _) | refine below_drewN ?_ _ | refine Below.drew ?_))⟩
        · have c1' : inR x 0 (wrap64 (states - 1)) = false := by simpa using c1
          have C1 := Lib.hid c1'
          clear c1 c1'
          go_wp2_with fail
          refine (within_no _ _ _ _ C1.out).mono ?_
          rintro e w' ⟨rfl, rfl⟩
          go_wp2_with fail
          go_ret
          exact ⟨ret_bool Hno.out.symm, (by repeat (first | exact Below.refl _ _ | (refine Below.alloc ?_ (by first | omega | (simp; done) | (simp; omega)) _) | refine below_drewN ?_ _ | refine Below.drew ?_))⟩
    · go_wp2_with fail
      refine (isMachine_no _ _ _ _ HS.out ⟨_, _, _, rfl⟩).mono ?_
      rintro e w2 ⟨rfl, hb2⟩
      go_wp2_with fail
      go_ret
      exact ⟨ret_bool Hno.out.symm, ((Below.refl _ _).alloc (Nat.le_refl _) _).trans (hb2.mono (by simp))⟩

theorem ValidAuto_any (v : Value) (a : GAuto) (w : World) (h : AutoV w w.heap.size v a) :
    Calls Try.prog 111 #[v] w fun e w' => e = .returned (.bool (autoOk a)) ∧ Below w.heap.size w w' := by
  by_cases hS : inR a.states 1 24 = true
  · exact ValidAuto_yes v a w h hS
  · exact ValidAuto_no v a w h (by simpa using hS)
end Go.Proofs.Ytoemoifeiigkoaa
