import Derived.Test.YtfapnipmgmpgaaaM5
import Derived.Test.YtfapnipmgmpgaaaM8
import Derived.Test.YtfapnipmgmpgaaaM6
import Derived.Test.YtfapnipmgmpgaaaM3
import Derived.Test.YtfapnipmgmpgaaaM4
import Derived.Laws.EntriesVeiled
namespace Go.Proofs.Ytfapnipmgmpgaaa
open Go.RowKit

theorem paC_1 {n : Int} {e : GEdit} {p : Int} (h : editOk e = false) : paC n e p = 1 ∧ paV n e p = 0 := by
  have : paC n e p = 1 := by simp [paC, h]
  exact ⟨this, by simp [paV, this]⟩
theorem paC_2 {n : Int} {e : GEdit} {p : Int} (h : editOk e = true) (h2 : (inR n 0 1000000000000000 && inR p 0 n && editFits e n) = false) : paC n e p = 2 ∧ paV n e p = 0 := by
  have : paC n e p = 2 := by simp only [paC, h, h2]; simp
  exact ⟨this, by simp [paV, this]⟩
theorem paC_3 {n : Int} {e : GEdit} {p : Int} (h : editOk e = true) (h2 : (inR n 0 1000000000000000 && inR p 0 n && editFits e n) = true) (h3 : ¬ editLen e n ≤ 1000000000000000) : paC n e p = 3 ∧ paV n e p = 0 := by
  have : paC n e p = 3 := by simp only [paC, h, h2]; simp [h3]
  exact ⟨this, by simp [paV, this]⟩
theorem paC_0 {n : Int} {e : GEdit} {p : Int} (h : editOk e = true) (h2 : (inR n 0 1000000000000000 && inR p 0 n && editFits e n) = true) (h3 : editLen e n ≤ 1000000000000000) : paC n e p = 0 ∧ paV n e p = placeP e p := by
  have : paC n e p = 0 := by simp only [paC, h, h2]; simp [h3]
  exact ⟨this, by simp [paV, this]⟩

set_option maxRecDepth 100000 in
set_option maxHeartbeats 4000000 in
theorem implPlaceAfter_any (n : Int) (v : Value) (e : GEdit) (p : Int) (w : World) (h : EditV w w.heap.size v e) (hn : e.part.length ≤ 1099511627776) (hm : e.map.size ≤ maxLen) :
    Calls Try.prog 33 #[.int .i64 n, v, .int .i64 p] w fun r w' => r = .returned (.tuple #[.int .i64 (paV n e p), .int .i64 (paC n e p)]) ∧ Below w.heap.size w w' := by
  have hV := fun o => (h.below ((Below.refl w.heap.size w).alloc (Nat.le_refl _) o)).le (B' := (w.alloc o).heap.size) (by simp)
  have HV := Lib.hid hV
  clear hV
  obtain ⟨vR, rfl, hR⟩ := h
  obtain ⟨AR, cR, rfl, _⟩ := hR
  go_enter Try.func33, Try.ntmps33
  go_wp2_with fail
  refine (implValidEdit_any _ e _ (HV.out _) hn hm).mono ?_
  rintro r w1 ⟨rfl, hb1⟩
  have z1 : w.heap.size < w1.heap.size := Nat.lt_of_lt_of_le (by simp) hb1.size
  have X1 := Lib.hid (Box6.new hb1)
  have V1 := Lib.hid ((HV.out _).up hb1)
  have B1 := Lib.hid (((Below.refl w.heap.size w).alloc (Nat.le_refl _) _).trans (hb1.mono (by simp)))
  clear hb1
  obtain ⟨x0, x1, x2, x3, x4, x5⟩ := X1.out
  by_cases he : editOk e = true
  · have HE := Lib.hid he
    have g0 : (!editOk e) = false := by simp [he]
    have hG := editOk_get he
    clear he
    by_cases c1 : inR n 0 1000000000000000 = true
    · have C1 := Lib.hid c1
      have hn0 : 0 ≤ n ∧ n ≤ 1000000000000000 := by simpa [inR] using c1
      clear c1
      go_wp2_with fail
      refine (within_yes _ _ _ _ C1.out).mono ?_
      rintro r w' ⟨rfl, rfl⟩
      by_cases c2 : inR p 0 n = true
      · have C2 := Lib.hid c2
        have hp0 : 0 ≤ p ∧ p ≤ n := by simpa [inR] using c2
        clear c2
        go_wp2_with fail
        refine (within_yes _ _ _ _ C2.out).mono ?_
        rintro r w' ⟨rfl, rfl⟩
        go_wp2_with fail
        refine (fits_any _ e n _ V1.out hG.1 hG.2.2.2.2.1).mono ?_
        rintro r w2 ⟨rfl, hb2⟩
        have z2 : w.heap.size < w2.heap.size := Nat.lt_of_lt_of_le z1 hb2.size
        have X2 := Lib.hid (X1.out.up hb2 z1)
        have V2 := Lib.hid (V1.out.up hb2)
        have B2 := Lib.hid (B1.out.trans (hb2.mono B1.out.size))
        clear hb2 x0 x1 x2 x3 x4 x5 X1 V1
        obtain ⟨x0, x1, x2, x3, x4, x5⟩ := X2.out
        by_cases c3 : editFits e n = true
        · have C3 := Lib.hid c3
          have g3 : (!editFits e n) = false := by simp [c3]
          clear c3
          have hall : (inR n 0 1000000000000000 && inR p 0 n && editFits e n) = true := by rw [C1.out, C2.out, C3.out]; rfl
          have Hall := Lib.hid hall
          clear hall
          go_wp2_with fail
          refine (grows_any _ e n _ V2.out HE.out hn hn0.1 hn0.2 C3.out).mono ?_
          rintro r w3 ⟨out, rfl, hout, hb3⟩
          have z3 : w.heap.size < w3.heap.size := Nat.lt_of_lt_of_le z2 hb3.size
          have X3 := Lib.hid (X2.out.up hb3 z2)
          have V3 := Lib.hid (V2.out.up hb3)
          have B3 := Lib.hid (B2.out.trans (hb3.mono B2.out.size))
          clear hb3 x0 x1 x2 x3 x4 x5 X2 V2
          obtain ⟨x0, x1, x2, x3, x4, x5⟩ := X3.out
          by_cases c4 : editLen e n ≤ 1000000000000000
          · have C4 := Lib.hid c4
            have g4 : decide (editLen e n ≤ 1000000000000000) = true := by simp [c4]
            have ho := hout c4
            rw [g4]
            clear c4 hout g4
            obtain ⟨pc, pv⟩ := paC_0 (p := p) HE.out Hall.out C4.out
            have PC := Lib.hid pc
            have PV := Lib.hid pv
            clear pc pv g0 g3
            have hbd : ∀ q, 0 ≤ q ∧ q ≤ 1000000000000000 → -1000000000000000 ≤ lessP e q ∧ lessP e q ≤ 2000000000000000 := by
              intro q hq; unfold lessP; split
              · omega
              · split <;> omega
            have Hbd := Lib.hid hbd
            clear hbd
            have hrem : ∀ W, EditV W W.heap.size (.agg #[.int .i64 e.kind, .int .i64 e.i, .int .i64 e.j, .int .i64 e.k, .slice AR e.part.length cR, .string e.map]) e → e.i ≤ e.j → ∀ q, 0 ≤ q ∧ q ≤ 1000000000000000 → Calls Try.prog 87 #[.agg #[.int .i64 e.kind, .int .i64 e.i, .int .i64 e.j, .int .i64 e.k, .slice AR e.part.length cR, .string e.map], .int .i64 q] W fun r w' => r = .returned (.int .i64 (lessP e q)) ∧ Below W.heap.size W w' :=
              fun W hW hij q hq => removed_any _ e q W hW (by simp [inR]; omega) (by simp [inR]; omega) hij hG.2.1.1 hG.2.2.1.2
            have Hrem := Lib.hid hrem
            clear hrem
            obtain ⟨g1, g2, g3, g4, g5, g6, g7⟩ := hG
            have hlb := gramLen_bounds e.part
            obtain ⟨k, i, j, kk, part, map⟩ := e
            simp only at g1 g2 g3 g4 g5 g6 g7 hn x0 x1 x2 x3 x4 x5 ho hlb
            have wji : IntKind.i64.wrap (j - i) = j - i := IntWalk.i64_in _ (by omega)
            clear g7 hm
            rcases kind7 g1 with rfl | rfl | rfl | rfl | rfl | rfl | rfl
            · have hj0 : j = 0 := g6 rfl
              subst hj0
              have wng : IntKind.i64.wrap (-i) = -i := IntWalk.i64_in _ (by omega)
              have hout : out = gramLen part := by simp [editLen] at ho; omega
              have Hout := Lib.hid hout
              have wn : IntKind.i64.wrap (p + out) = p + out := IntWalk.i64_in _ (by omega)
              clear ho hout
              by_cases cA : i < p
              · have a1 : decide (i < p) = true := by simp [cA]
                have b1 : decide (p < 0) = false := by simp; omega
                have HA := Lib.hid cA
                go_wp2_with fail
                go_quiet (fail)
                go_wp2_with fail
                go_ret2
                exact ⟨by rw [PC.out, PV.out]; simp [placeP, HA.out, Hout.out], B3.out.trans ((below_drewN (Below.refl _ _) _).mono B3.out.size)⟩
              · have a1 : decide (i < p) = false := by simp; omega
                have HA := Lib.hid cA
                go_wp2_with fail
                go_quiet (fail)
                go_wp2_with fail
                go_ret2
                exact ⟨by rw [PC.out, PV.out]; simp [placeP, of_decide_eq_false a1], B3.out.trans ((below_drewN (Below.refl _ _) _).mono B3.out.size)⟩
            · clear ho
              by_cases cA : i < p
              · have a1 : decide (i < p) = true := by simp [cA]
                have HA := Lib.hid cA
                by_cases cB : p < j
                · have b1 : decide (p < j) = true := by simp [cB]
                  have HB := Lib.hid cB
                  clear cA cB
                  go_wp2_with fail
                  go_quiet (fail)
                  go_wp2_with fail
                  refine (Hrem.out _ (V3.out.up (below_drewN (Below.refl _ _) _)) (g5 (by omega)) p (by omega)).mono ?_
                  rintro r w4 ⟨rfl, hb4⟩
                  have B4 := Lib.hid (B3.out.trans (((below_drewN (Below.refl w3.heap.size w3) _).trans hb4).mono B3.out.size))
                  clear hb4
                  go_wp2_with fail
                  go_ret2
                  exact ⟨by rw [PC.out, PV.out]; simp [placeP], B4.out⟩
                · have b1 : decide (p < j) = false := by simp; omega
                  have HB := Lib.hid cB
                  clear cA cB
                  go_wp2_with fail
                  go_quiet (fail)
                  go_wp2_with fail
                  refine (Hrem.out _ (V3.out.up (below_drewN (Below.refl _ _) _)) (g5 (by omega)) p (by omega)).mono ?_
                  rintro r w4 ⟨rfl, hb4⟩
                  have B4 := Lib.hid (B3.out.trans (((below_drewN (Below.refl w3.heap.size w3) _).trans hb4).mono B3.out.size))
                  clear hb4
                  go_wp2_with fail
                  go_ret2
                  exact ⟨by rw [PC.out, PV.out]; simp [placeP], B4.out⟩
              · have a1 : decide (i < p) = false := by simp; omega
                have HA := Lib.hid cA
                clear cA
                go_wp2_with fail
                go_quiet (fail)
                go_wp2_with fail
                refine (Hrem.out _ (V3.out.up (below_drewN (Below.refl _ _) _)) (g5 (by omega)) p (by omega)).mono ?_
                rintro r w4 ⟨rfl, hb4⟩
                have B4 := Lib.hid (B3.out.trans (((below_drewN (Below.refl w3.heap.size w3) _).trans hb4).mono B3.out.size))
                clear hb4
                go_wp2_with fail
                go_ret2
                exact ⟨by rw [PC.out, PV.out]; simp [placeP], B4.out⟩
            · have hout : out = j - i := by simp [editLen] at ho; omega
              have Hout := Lib.hid hout
              have wn : IntKind.i64.wrap (p + out) = p + out := IntWalk.i64_in _ (by have := g5 (by omega); omega)
              clear ho hout
              by_cases cA : i < p
              · have a1 : decide (i < p) = true := by simp [cA]
                have HA := Lib.hid cA
                by_cases cB : p < j
                · have b1 : decide (p < j) = true := by simp [cB]
                  have HB := Lib.hid cB
                  clear cA cB
                  by_cases cC : kk < p
                  · have HC := Lib.hid cC
                    go_wp2_with fail
                    go_quiet (fail)
                    go_wp2_with fail
                    go_ret2
                    exact ⟨by rw [PC.out, PV.out]; simp [placeP, HC.out, Hout.out], B3.out.trans ((below_drewN (Below.refl _ _) _).mono B3.out.size)⟩
                  · have d1 : decide (kk < p) = false := by simp; omega
                    go_wp2_with fail
                    go_quiet (fail)
                    go_wp2_with fail
                    go_ret2
                    exact ⟨by rw [PC.out, PV.out]; simp [placeP, of_decide_eq_false d1], B3.out.trans ((below_drewN (Below.refl _ _) _).mono B3.out.size)⟩
                · have b1 : decide (p < j) = false := by simp; omega
                  have HB := Lib.hid cB
                  clear cA cB
                  by_cases cC : kk < p
                  · have HC := Lib.hid cC
                    go_wp2_with fail
                    go_quiet (fail)
                    go_wp2_with fail
                    go_ret2
                    exact ⟨by rw [PC.out, PV.out]; simp [placeP, HC.out, Hout.out], B3.out.trans ((below_drewN (Below.refl _ _) _).mono B3.out.size)⟩
                  · have d1 : decide (kk < p) = false := by simp; omega
                    go_wp2_with fail
                    go_quiet (fail)
                    go_wp2_with fail
                    go_ret2
                    exact ⟨by rw [PC.out, PV.out]; simp [placeP, of_decide_eq_false d1], B3.out.trans ((below_drewN (Below.refl _ _) _).mono B3.out.size)⟩
              · have a1 : decide (i < p) = false := by simp; omega
                have HA := Lib.hid cA
                clear cA
                by_cases cC : kk < p
                · have HC := Lib.hid cC
                  go_wp2_with fail
                  go_quiet (fail)
                  go_wp2_with fail
                  go_ret2
                  exact ⟨by rw [PC.out, PV.out]; simp [placeP, HC.out, Hout.out], B3.out.trans ((below_drewN (Below.refl _ _) _).mono B3.out.size)⟩
                · have d1 : decide (kk < p) = false := by simp; omega
                  go_wp2_with fail
                  go_quiet (fail)
                  go_wp2_with fail
                  go_ret2
                  exact ⟨by rw [PC.out, PV.out]; simp [placeP, of_decide_eq_false d1], B3.out.trans ((below_drewN (Below.refl _ _) _).mono B3.out.size)⟩
            · clear ho
              by_cases cA : i < p
              · have a1 : decide (i < p) = true := by simp [cA]
                have HA := Lib.hid cA
                by_cases cB : p < j
                · have b1 : decide (p < j) = true := by simp [cB]
                  have HB := Lib.hid cB
                  by_cases cK : kk ≤ i
                  · have k1' : decide (i < kk) = false := by simp; omega
                    have hT : lessP ⟨4, i, j, kk, part, map⟩ kk = kk := by simp [lessP, cK]
                    have hTb := Hbd.out kk (by omega)
                    rw [hT] at hTb
                    have HT := Lib.hid hT
                    clear hT cK
                    have wa : IntKind.i64.wrap (kk + p) = kk + p := IntWalk.i64_in _ (by omega)
                    have wb : IntKind.i64.wrap (kk + p - i) = kk + p - i := IntWalk.i64_in _ (by omega)
                    clear cA cB
                    go_wp2_with fail
                    go_quiet (fail)
                    go_wp2_with fail
                    go_ret2
                    exact ⟨by rw [PC.out, PV.out]; simp [placeP, HA.out, HB.out, HT.out], B3.out.trans ((below_drewN (Below.refl _ _) _).mono B3.out.size)⟩
                  · have k1' : decide (i < kk) = true := by simp; omega
                    have hkj : j ≤ kk := by rcases (show kk ≤ i ∨ j ≤ kk by have := C3.out; simp [editFits] at this; omega) with h | h <;> omega
                    have hT : lessP ⟨4, i, j, kk, part, map⟩ kk = kk - (j - i) := by simp only [lessP]; rw [if_neg (by omega), if_neg (by omega)]
                    have wk : IntKind.i64.wrap (kk - (j - i)) = kk - (j - i) := IntWalk.i64_in _ (by omega)
                    have hTb := Hbd.out kk (by omega)
                    rw [hT] at hTb
                    have HT := Lib.hid hT
                    clear hT cK
                    have wa : IntKind.i64.wrap ((kk - (j - i)) + p) = (kk - (j - i)) + p := IntWalk.i64_in _ (by omega)
                    have wb : IntKind.i64.wrap ((kk - (j - i)) + p - i) = (kk - (j - i)) + p - i := IntWalk.i64_in _ (by omega)
                    clear cA cB
                    go_wp2_with fail
                    go_quiet (fail)
                    go_wp2_with fail
                    go_ret2
                    exact ⟨by rw [PC.out, PV.out]; simp [placeP, HA.out, HB.out, HT.out], B3.out.trans ((below_drewN (Below.refl _ _) _).mono B3.out.size)⟩
                · have b1 : decide (p < j) = false := by simp; omega
                  have HB := Lib.hid cB
                  by_cases cK : kk ≤ i
                  · have k1' : decide (i < kk) = false := by simp; omega
                    have hT : lessP ⟨4, i, j, kk, part, map⟩ kk = kk := by simp [lessP, cK]
                    have hTb := Hbd.out kk (by omega)
                    rw [hT] at hTb
                    have HT := Lib.hid hT
                    clear hT cK
                    clear cA cB
                    go_wp2_with fail
                    go_quiet (fail)
                    go_wp2_with fail
                    refine (Hrem.out _ (V3.out.up (below_drewN (Below.refl _ _) _)) (g5 (by omega)) p (by omega)).mono ?_
                    rintro r w4 ⟨rfl, hb4⟩
                    have B4 := Lib.hid (B3.out.trans (((below_drewN (Below.refl w3.heap.size w3) _).trans hb4).mono B3.out.size))
                    clear hb4
                    have c0 := Hbd.out p (by omega)
                    obtain ⟨Q, hQ⟩ : ∃ Q, lessP ⟨4, i, j, kk, part, map⟩ p = Q := ⟨_, rfl⟩
                    rw [hQ] at c0
                    rw [hQ]
                    have HQ := Lib.hid hQ
                    clear hQ
                    have wa : IntKind.i64.wrap (Q + (j - i)) = Q + (j - i) := IntWalk.i64_in _ (by have := g5 (by omega); omega)
                    by_cases cD : kk < Q
                    · have HD := Lib.hid cD
                      go_wp2_with fail
                      go_ret2
                      exact ⟨by rw [PC.out, PV.out, show placeP ⟨4, i, j, kk, part, map⟩ p = Q + (j - i) from by simp only [placeP]; rw [if_neg (by decide), if_neg (by decide), if_neg (by decide), if_pos trivial, if_neg (fun h => of_decide_eq_false b1 h.2), HT.out, HQ.out, if_pos HD.out]]; rfl, B4.out⟩
                    · have d1 : decide (kk < Q) = false := by simp; omega
                      have HD := Lib.hid cD
                      go_wp2_with fail
                      go_ret2
                      exact ⟨by rw [PC.out, PV.out, show placeP ⟨4, i, j, kk, part, map⟩ p = Q from by simp only [placeP]; rw [if_neg (by decide), if_neg (by decide), if_neg (by decide), if_pos trivial, if_neg (fun h => of_decide_eq_false b1 h.2), HT.out, HQ.out, if_neg (of_decide_eq_false d1)]]; rfl, B4.out⟩
                  · have k1' : decide (i < kk) = true := by simp; omega
                    have hkj : j ≤ kk := by rcases (show kk ≤ i ∨ j ≤ kk by have := C3.out; simp [editFits] at this; omega) with h | h <;> omega
                    have hT : lessP ⟨4, i, j, kk, part, map⟩ kk = kk - (j - i) := by simp only [lessP]; rw [if_neg (by omega), if_neg (by omega)]
                    have wk : IntKind.i64.wrap (kk - (j - i)) = kk - (j - i) := IntWalk.i64_in _ (by omega)
                    have hTb := Hbd.out kk (by omega)
                    rw [hT] at hTb
                    have HT := Lib.hid hT
                    clear hT cK
                    clear cA cB
                    go_wp2_with fail
                    go_quiet (fail)
                    go_wp2_with fail
                    refine (Hrem.out _ (V3.out.up (below_drewN (Below.refl _ _) _)) (g5 (by omega)) p (by omega)).mono ?_
                    rintro r w4 ⟨rfl, hb4⟩
                    have B4 := Lib.hid (B3.out.trans (((below_drewN (Below.refl w3.heap.size w3) _).trans hb4).mono B3.out.size))
                    clear hb4
                    have c0 := Hbd.out p (by omega)
                    obtain ⟨Q, hQ⟩ : ∃ Q, lessP ⟨4, i, j, kk, part, map⟩ p = Q := ⟨_, rfl⟩
                    rw [hQ] at c0
                    rw [hQ]
                    have HQ := Lib.hid hQ
                    clear hQ
                    have wa : IntKind.i64.wrap (Q + (j - i)) = Q + (j - i) := IntWalk.i64_in _ (by have := g5 (by omega); omega)
                    by_cases cD : (kk - (j - i)) < Q
                    · have HD := Lib.hid cD
                      go_wp2_with fail
                      go_ret2
                      exact ⟨by rw [PC.out, PV.out, show placeP ⟨4, i, j, kk, part, map⟩ p = Q + (j - i) from by simp only [placeP]; rw [if_neg (by decide), if_neg (by decide), if_neg (by decide), if_pos trivial, if_neg (fun h => of_decide_eq_false b1 h.2), HT.out, HQ.out, if_pos HD.out]]; rfl, B4.out⟩
                    · have d1 : decide ((kk - (j - i)) < Q) = false := by simp; omega
                      have HD := Lib.hid cD
                      go_wp2_with fail
                      go_ret2
                      exact ⟨by rw [PC.out, PV.out, show placeP ⟨4, i, j, kk, part, map⟩ p = Q from by simp only [placeP]; rw [if_neg (by decide), if_neg (by decide), if_neg (by decide), if_pos trivial, if_neg (fun h => of_decide_eq_false b1 h.2), HT.out, HQ.out, if_neg (of_decide_eq_false d1)]]; rfl, B4.out⟩
              · have a1 : decide (i < p) = false := by simp; omega
                have HA := Lib.hid cA
                by_cases cK : kk ≤ i
                · have k1' : decide (i < kk) = false := by simp; omega
                  have hT : lessP ⟨4, i, j, kk, part, map⟩ kk = kk := by simp [lessP, cK]
                  have hTb := Hbd.out kk (by omega)
                  rw [hT] at hTb
                  have HT := Lib.hid hT
                  clear hT cK
                  clear cA
                  go_wp2_with fail
                  go_quiet (fail)
                  go_wp2_with fail
                  refine (Hrem.out _ (V3.out.up (below_drewN (Below.refl _ _) _)) (g5 (by omega)) p (by omega)).mono ?_
                  rintro r w4 ⟨rfl, hb4⟩
                  have B4 := Lib.hid (B3.out.trans (((below_drewN (Below.refl w3.heap.size w3) _).trans hb4).mono B3.out.size))
                  clear hb4
                  have c0 := Hbd.out p (by omega)
                  obtain ⟨Q, hQ⟩ : ∃ Q, lessP ⟨4, i, j, kk, part, map⟩ p = Q := ⟨_, rfl⟩
                  rw [hQ] at c0
                  rw [hQ]
                  have HQ := Lib.hid hQ
                  clear hQ
                  have wa : IntKind.i64.wrap (Q + (j - i)) = Q + (j - i) := IntWalk.i64_in _ (by have := g5 (by omega); omega)
                  by_cases cD : kk < Q
                  · have HD := Lib.hid cD
                    go_wp2_with fail
                    go_ret2
                    exact ⟨by rw [PC.out, PV.out, show placeP ⟨4, i, j, kk, part, map⟩ p = Q + (j - i) from by simp only [placeP]; rw [if_neg (by decide), if_neg (by decide), if_neg (by decide), if_pos trivial, if_neg (fun h => of_decide_eq_false a1 h.1), HT.out, HQ.out, if_pos HD.out]]; rfl, B4.out⟩
                  · have d1 : decide (kk < Q) = false := by simp; omega
                    have HD := Lib.hid cD
                    go_wp2_with fail
                    go_ret2
                    exact ⟨by rw [PC.out, PV.out, show placeP ⟨4, i, j, kk, part, map⟩ p = Q from by simp only [placeP]; rw [if_neg (by decide), if_neg (by decide), if_neg (by decide), if_pos trivial, if_neg (fun h => of_decide_eq_false a1 h.1), HT.out, HQ.out, if_neg (of_decide_eq_false d1)]]; rfl, B4.out⟩
                · have k1' : decide (i < kk) = true := by simp; omega
                  have hkj : j ≤ kk := by rcases (show kk ≤ i ∨ j ≤ kk by have := C3.out; simp [editFits] at this; omega) with h | h <;> omega
                  have hT : lessP ⟨4, i, j, kk, part, map⟩ kk = kk - (j - i) := by simp only [lessP]; rw [if_neg (by omega), if_neg (by omega)]
                  have wk : IntKind.i64.wrap (kk - (j - i)) = kk - (j - i) := IntWalk.i64_in _ (by omega)
                  have hTb := Hbd.out kk (by omega)
                  rw [hT] at hTb
                  have HT := Lib.hid hT
                  clear hT cK
                  clear cA
                  go_wp2_with fail
                  go_quiet (fail)
                  go_wp2_with fail
                  refine (Hrem.out _ (V3.out.up (below_drewN (Below.refl _ _) _)) (g5 (by omega)) p (by omega)).mono ?_
                  rintro r w4 ⟨rfl, hb4⟩
                  have B4 := Lib.hid (B3.out.trans (((below_drewN (Below.refl w3.heap.size w3) _).trans hb4).mono B3.out.size))
                  clear hb4
                  have c0 := Hbd.out p (by omega)
                  obtain ⟨Q, hQ⟩ : ∃ Q, lessP ⟨4, i, j, kk, part, map⟩ p = Q := ⟨_, rfl⟩
                  rw [hQ] at c0
                  rw [hQ]
                  have HQ := Lib.hid hQ
                  clear hQ
                  have wa : IntKind.i64.wrap (Q + (j - i)) = Q + (j - i) := IntWalk.i64_in _ (by have := g5 (by omega); omega)
                  by_cases cD : (kk - (j - i)) < Q
                  · have HD := Lib.hid cD
                    go_wp2_with fail
                    go_ret2
                    exact ⟨by rw [PC.out, PV.out, show placeP ⟨4, i, j, kk, part, map⟩ p = Q + (j - i) from by simp only [placeP]; rw [if_neg (by decide), if_neg (by decide), if_neg (by decide), if_pos trivial, if_neg (fun h => of_decide_eq_false a1 h.1), HT.out, HQ.out, if_pos HD.out]]; rfl, B4.out⟩
                  · have d1 : decide ((kk - (j - i)) < Q) = false := by simp; omega
                    have HD := Lib.hid cD
                    go_wp2_with fail
                    go_ret2
                    exact ⟨by rw [PC.out, PV.out, show placeP ⟨4, i, j, kk, part, map⟩ p = Q from by simp only [placeP]; rw [if_neg (by decide), if_neg (by decide), if_neg (by decide), if_pos trivial, if_neg (fun h => of_decide_eq_false a1 h.1), HT.out, HQ.out, if_neg (of_decide_eq_false d1)]]; rfl, B4.out⟩
            · clear ho
              by_cases cA : i < p
              · have a1 : decide (i < p) = true := by simp [cA]
                have HA := Lib.hid cA
                by_cases cB : p < j
                · have b1 : decide (p < j) = true := by simp [cB]
                  have HB := Lib.hid cB
                  have wa : IntKind.i64.wrap (i + j) = i + j := IntWalk.i64_in _ (by omega)
                  have wb : IntKind.i64.wrap (i + j - p) = i + j - p := IntWalk.i64_in _ (by omega)
                  clear cA cB
                  go_wp2_with fail
                  go_quiet (fail)
                  go_wp2_with fail
                  go_ret2
                  exact ⟨by rw [PC.out, PV.out]; simp [placeP, HA.out, HB.out], B3.out.trans ((below_drewN (Below.refl _ _) _).mono B3.out.size)⟩
                · have b1 : decide (p < j) = false := by simp; omega
                  have HB := Lib.hid cB
                  clear cA cB
                  go_wp2_with fail
                  go_quiet (fail)
                  go_wp2_with fail
                  go_ret2
                  exact ⟨by rw [PC.out, PV.out]; simp [placeP]; intro h1 h2; exact absurd h2 (of_decide_eq_false b1), B3.out.trans ((below_drewN (Below.refl _ _) _).mono B3.out.size)⟩
              · have a1 : decide (i < p) = false := by simp; omega
                have HA := Lib.hid cA
                clear cA
                go_wp2_with fail
                go_quiet (fail)
                go_wp2_with fail
                go_ret2
                exact ⟨by rw [PC.out, PV.out]; simp [placeP]; intro h1 h2; exact absurd h1 (of_decide_eq_false a1), B3.out.trans ((below_drewN (Below.refl _ _) _).mono B3.out.size)⟩
            · have hout : out = -(j - i) + (j - i) * kk := by simp [editLen] at ho; omega
              have hL6 : n - (j - i) + (j - i) * kk ≤ 1000000000000000 := by simpa [editLen] using C4.out
              have hF6 : j ≤ n := by simpa [editFits] using C3.out
              have hij := g5 (by omega)
              have hm0 : 0 ≤ (j - i) * kk := Int.mul_nonneg (by omega) g4.1
              have hob : -1000000000000000 ≤ out ∧ out ≤ 2000000000000000 := by omega
              have Hout := Lib.hid hout
              clear ho hout hL6
              by_cases cA : i < p
              · have a1 : decide (i < p) = true := by simp [cA]
                have HA := Lib.hid cA
                by_cases cB : p < j
                · have b1 : decide (p < j) = true := by simp [cB]
                  have HB := Lib.hid cB
                  have e1 : decide (j ≤ p) = false := by simp; omega
                  clear hm0
                  by_cases cE : kk = 0
                  · have e2 : (kk == 0) = true := by simp [cE]
                    have HE1 := Lib.hid cE
                    clear cE cA cB
                    go_wp2_with fail
                    go_quiet (fail)
                    go_wp2_with fail
                    go_ret2
                    exact ⟨by rw [PC.out, PV.out, show placeP ⟨6, i, j, kk, part, map⟩ p = i from by simp only [placeP]; rw [if_neg (by decide), if_neg (by decide), if_neg (by decide), if_neg (by decide), if_neg (by decide), if_pos trivial, if_neg (of_decide_eq_false e1), if_pos ⟨⟨HA.out, HB.out⟩, HE1.out⟩]]; rfl, B3.out.trans ((below_drewN (Below.refl _ _) _).mono B3.out.size)⟩
                  · have e2 : (kk == 0) = false := by simp [cE]
                    have HE1 := Lib.hid cE
                    clear cE cA cB
                    go_wp2_with fail
                    go_quiet (fail)
                    go_wp2_with fail
                    go_ret2
                    exact ⟨by rw [PC.out, PV.out, show placeP ⟨6, i, j, kk, part, map⟩ p = p from by simp only [placeP]; rw [if_neg (by decide), if_neg (by decide), if_neg (by decide), if_neg (by decide), if_neg (by decide), if_pos trivial, if_neg (of_decide_eq_false e1), if_neg (fun h => HE1.out h.2)]]; rfl, B3.out.trans ((below_drewN (Below.refl _ _) _).mono B3.out.size)⟩
                · have b1 : decide (p < j) = false := by simp; omega
                  have HB := Lib.hid cB
                  have e1' : j ≤ p := by omega
                  have HE1 := Lib.hid e1'
                  have wa : IntKind.i64.wrap (p + out) = p + out := IntWalk.i64_in _ (by omega)
                  clear cA cB hm0
                  go_wp2_with fail
                  go_quiet (fail)
                  go_wp2_with fail
                  go_ret2
                  exact ⟨by rw [PC.out, PV.out]; simp [placeP, HE1.out, Hout.out]; omega, B3.out.trans ((below_drewN (Below.refl _ _) _).mono B3.out.size)⟩
              · have a1 : decide (i < p) = false := by simp; omega
                have HA := Lib.hid cA
                by_cases cE : j ≤ p
                · have HE1 := Lib.hid cE
                  have wa : IntKind.i64.wrap (p + out) = p + out := IntWalk.i64_in _ (by omega)
                  clear cA hm0
                  go_wp2_with fail
                  go_quiet (fail)
                  go_wp2_with fail
                  go_ret2
                  exact ⟨by rw [PC.out, PV.out]; simp [placeP, HE1.out, Hout.out]; omega, B3.out.trans ((below_drewN (Below.refl _ _) _).mono B3.out.size)⟩
                · have e1 : decide (j ≤ p) = false := by simp; omega
                  clear cA cE hm0
                  go_wp2_with fail
                  go_quiet (fail)
                  go_wp2_with fail
                  go_ret2
                  exact ⟨by rw [PC.out, PV.out, show placeP ⟨6, i, j, kk, part, map⟩ p = p from by simp only [placeP]; rw [if_neg (by decide), if_neg (by decide), if_neg (by decide), if_neg (by decide), if_neg (by decide), if_pos trivial, if_neg (of_decide_eq_false e1), if_neg (fun h => of_decide_eq_false a1 h.1.1)]]; rfl, B3.out.trans ((below_drewN (Below.refl _ _) _).mono B3.out.size)⟩
            · clear ho
              by_cases cA : i < p
              · have a1 : decide (i < p) = true := by simp [cA]
                have HA := Lib.hid cA
                by_cases cB : p < j
                · have b1 : decide (p < j) = true := by simp [cB]
                  have HB := Lib.hid cB
                  clear cA cB
                  go_wp2_with fail
                  go_quiet (fail)
                  go_wp2_with fail
                  go_ret2
                  exact ⟨by rw [PC.out, PV.out]; simp [placeP], B3.out.trans ((below_drewN (Below.refl _ _) _).mono B3.out.size)⟩
                · have b1 : decide (p < j) = false := by simp; omega
                  have HB := Lib.hid cB
                  clear cA cB
                  go_wp2_with fail
                  go_quiet (fail)
                  go_wp2_with fail
                  go_ret2
                  exact ⟨by rw [PC.out, PV.out]; simp [placeP], B3.out.trans ((below_drewN (Below.refl _ _) _).mono B3.out.size)⟩
              · have a1 : decide (i < p) = false := by simp; omega
                have HA := Lib.hid cA
                clear cA
                go_wp2_with fail
                go_quiet (fail)
                go_wp2_with fail
                go_ret2
                exact ⟨by rw [PC.out, PV.out]; simp [placeP], B3.out.trans ((below_drewN (Below.refl _ _) _).mono B3.out.size)⟩
          · have g4 : decide (editLen e n ≤ 1000000000000000) = false := by simp; omega
            rw [g4]
            obtain ⟨pc, pv⟩ := paC_3 (p := p) HE.out Hall.out c4
            have PC := Lib.hid pc
            have PV := Lib.hid pv
            clear pc pv c4 hout g4
            go_wp2_with fail
            go_ret2
            exact ⟨by rw [PC.out, PV.out]; rfl, B3.out⟩
        · have c3' : editFits e n = false := by simpa using c3
          have g3 : (!editFits e n) = true := by simp [c3']
          obtain ⟨pc, pv⟩ := paC_2 (n := n) (p := p) HE.out (by rw [C1.out, C2.out, c3']; rfl)
          have PC := Lib.hid pc
          have PV := Lib.hid pv
          clear pc pv c3 c3'
          go_wp2_with fail
          go_ret2
          exact ⟨by rw [PC.out, PV.out]; rfl, B2.out⟩
      · have c2' : inR p 0 n = false := by simpa using c2
        obtain ⟨pc, pv⟩ := paC_2 (n := n) (p := p) HE.out (by rw [C1.out, c2']; rfl)
        have PC := Lib.hid pc
        have PV := Lib.hid pv
        have C2 := Lib.hid c2'
        clear pc pv c2 c2'
        go_wp2_with fail
        refine (within_no _ _ _ _ C2.out).mono ?_
        rintro r w' ⟨rfl, rfl⟩
        go_wp2_with fail
        go_ret2
        exact ⟨by rw [PC.out, PV.out]; rfl, B1.out⟩
    · have c1' : inR n 0 1000000000000000 = false := by simpa using c1
      obtain ⟨pc, pv⟩ := paC_2 (n := n) (p := p) HE.out (by rw [c1']; rfl)
      have PC := Lib.hid pc
      have PV := Lib.hid pv
      have C1 := Lib.hid c1'
      clear pc pv c1 c1'
      go_wp2_with fail
      refine (within_no _ _ _ _ C1.out).mono ?_
      rintro r w' ⟨rfl, rfl⟩
      go_wp2_with fail
      go_ret2
      exact ⟨by rw [PC.out, PV.out]; rfl, B1.out⟩
  · have he' : editOk e = false := by simpa using he
    have g0 : (!editOk e) = true := by simp [he']
    obtain ⟨pc, pv⟩ := paC_1 (n := n) (p := p) he'
    have PC := Lib.hid pc
    have PV := Lib.hid pv
    clear pc pv he he'
    go_wp2_with fail
    go_ret2
    exact ⟨by rw [PC.out, PV.out]; rfl, B1.out⟩
end Go.Proofs.Ytfapnipmgmpgaaa

namespace Go.Proofs.Ytfapnipmgmpgaaa
open Go.RowKit

/-- What the closure 'spell' stands on: a builder with the letters so far, the grammar's box, its own box. -/
structure BJ (xs : List GRule) (vR : Value) (bg bs b B : Nat) (C : Nat → Prop) (s : List UInt8) (w : World) : Prop where
  bld : BuiltB B b s w
  hB : B ≤ w.heap.size
  nb : ¬ C b
  no : ∀ k, C k → B ≤ k → ∀ c fz, w.heap[k]? ≠ some (.cells c 5 fz)
  mg : C bg
  ms : C bs
  cg : w.cell? ⟨bg, 0, none⟩ = some vR
  cs : w.cell? ⟨bs, 0, none⟩ = some (.func (.func 174) #[] #[.pointer (some ⟨bg, 0, none⟩), .pointer (some ⟨bs, 0, none⟩), .pointer (some ⟨b, 0, none⟩)])
  sl : SlS RuleE w C vR xs
theorem BuiltB.lt {B b : Nat} {l : List UInt8} {w : World} (h : BuiltB B b l w) : b < w.heap.size := by
  rcases h with h | h
  · exact h.lt
  · exact h.lt
theorem built_keep {B b : Nat} {l : List UInt8} {w w' : World} (h : BuiltB B b l w) (hb : Below w.heap.size w w') : BuiltB B b l w' := by
  rcases h with ⟨h1, v, h2, h3, h4⟩ | ⟨h1, v, h2, h3, h4⟩
  · exact .inl ⟨h1, v, (hb.block b (Array.getElem?_eq_some_iff.1 h2).1).trans h2, ownsRow_below h3 hb, h4⟩
  · exact .inr ⟨h1, v, (hb.block b (Array.getElem?_eq_some_iff.1 h2).1).trans h2, ownsRow_below h3 hb, h4⟩
section
variable {xs : List GRule} {vR : Value} {bg bs b B : Nat}
theorem BJ.ext : ∀ (C : Nat → Prop) (s : List UInt8) (w w' : World), BJ xs vR bg bs b B C s w → Below w.heap.size w w' → NewNoB w.heap.size w' → (∀ k, C k → k < w.heap.size) → BJ xs vR bg bs b B (ext C w.heap.size w'.heap.size) s w' := by
  intro C s w w' h hb hn hC
  refine ⟨built_keep h.bld hb, Nat.le_trans h.hB hb.size, ?_, ?_, .inl h.mg, .inl h.ms, (hb.cell (p := ⟨bg, 0, none⟩) (hC _ h.mg)).trans h.cg, (hb.cell (p := ⟨bs, 0, none⟩) (hC _ h.ms)).trans h.cs, (h.sl.keep fun k hk => hb.block k (hC k hk)).more fun k hk => .inl hk⟩
  · rintro (h1 | h1)
    · exact h.nb h1
    · have := h.bld.lt; omega
  · rintro k (h1 | h1) hk c fz
    · rw [hb.block k (hC k h1)]; exact h.no k h1 hk c fz
    · exact hn k h1.1 c fz
theorem BJ.written {C : Nat → Prop} {s s' : List UInt8} {w w' : World} (h : BJ xs vR bg bs b B C s w) (hbl : BuiltB B b s' w') (hb : Below B w w') (hk : Lib.OthersKept 5 (some b) w w') (hC : ∀ k, C k → k < w.heap.size) : BJ xs vR bg bs b B C s' w' ∧ Wk C w w' := by
  have hblk : ∀ k, C k → w'.heap[k]? = w.heap[k]? := fun k hk' => by
    rcases Nat.lt_or_ge k B with hkB | hkB
    · exact hb.block k hkB
    obtain ⟨o, ho⟩ : ∃ o, w.heap[k]? = some o := ⟨_, Array.getElem?_eq_getElem (hC k hk')⟩
    rw [ho]
    exact hk k o ho (fun e => h.nb (by have : k = b := Option.some.inj e; rw [← this]; exact hk')) (fun c fz e => h.no k hk' hkB c fz (by rw [ho, e]))
  have hw : Wk C w w' := ⟨hb.os, hb.tape, hb.output, hb.size, hblk⟩
  exact ⟨⟨hbl, Nat.le_trans h.hB hb.size, h.nb, fun k hk' hkB c fz => by rw [hblk k hk']; exact h.no k hk' hkB c fz, h.mg, h.ms, hw.cell h.mg h.cg, hw.cell h.ms h.cs, h.sl.keep hw.keep⟩, hw⟩

set_option maxRecDepth 100000 in
set_option maxHeartbeats 4000000 in
theorem spell_any (ls : List Int) (hl : lens xs = some ls) : ∀ (r : Nat) (s : List UInt8) (C : Nat → Prop) (w : World), r < xs.length → BJ xs vR bg bs b B C s w → (∀ k, C k → k < w.heap.size) → s.length + (W1 xs r).length ≤ 1099511627776 →
    Calls Try.prog 174 #[.int .i64 r, .pointer (some ⟨bg, 0, none⟩), .pointer (some ⟨bs, 0, none⟩), .pointer (some ⟨b, 0, none⟩)] w (TakePost (BJ xs vR bg bs b B) C (s ++ W1 xs r) w) := by
  intro r
  induction r using Nat.strongRecOn with
  | _ r ih =>
    intro s C w hr hJ hC hlen
    have HJ := Lib.hid hJ
    have HC := Lib.hid hC
    have Ih := Lib.hid ih
    have hcg := hJ.cg
    have hcs := hJ.cs
    obtain ⟨AR, cR, rfl, _, _, hrowR⟩ := hJ.sl
    obtain ⟨b2, o2, rfl, hb2, hcellR⟩ := hrowR.rule hr
    obtain ⟨k0, k1, k2⟩ := hcellR r _ (getR_at hr)
    have hrx : (r : Int) < (xs.length : Int) := by omega
    have lbg : bg < w.heap.size := hC _ hJ.mg
    have lbs : bs < w.heap.size := hC _ hJ.ms
    have lb2 : b2 < w.heap.size := hC _ hb2
    have eg : ∀ args w, (callFunc 174 args).run Try.prog w = .ok (.enter 174 args) w := enters_of Try.func174 (by kernel_rfl) rfl
    obtain ⟨R, hR⟩ : ∃ R, getR xs r = R := ⟨_, rfl⟩
    rw [hR] at k0 k1 k2
    have HR := Lib.hid hR
    have Hlen := Lib.hid hlen
    clear ih hJ hC hrowR hcellR hb2 hR hlen
    have hBA : ∀ o o', Below w.heap.size w ((w.alloc o).alloc o') := fun o o' => ((Below.refl _ _).alloc (Nat.le_refl _) _).alloc (by simp) _
    have HBA := Lib.hid hBA
    clear hBA
    go_enter Try.func174, Try.ntmps174
    go_wp2_with fail
    refine (isPair_any _ _ _ _).mono ?_
    rintro e w1 ⟨rfl, rfl⟩
    have hN : NewNoB w.heap.size ((w.alloc (Obj.cells #[Value.string R.letter, Value.int IntKind.i64 R.left, Value.int IntKind.i64 R.right] 160)).alloc (Obj.cells #[Value.string R.letter, Value.int IntKind.i64 R.left, Value.int IntKind.i64 R.right] 160)) := ((NewNoB.same w).alloc (NoB.cells (by decide))).alloc (NoB.cells (by decide))
    have hB2 := HBA.out (Obj.cells #[Value.string R.letter, Value.int IntKind.i64 R.left, Value.int IntKind.i64 R.right] 160) (Obj.cells #[Value.string R.letter, Value.int IntKind.i64 R.left, Value.int IntKind.i64 R.right] 160)
    have e0 : ((w.alloc (Obj.cells #[Value.string R.letter, Value.int IntKind.i64 R.left, Value.int IntKind.i64 R.right] 160)).alloc (Obj.cells #[Value.string R.letter, Value.int IntKind.i64 R.left, Value.int IntKind.i64 R.right] 160)).heap[w.heap.size]? = some (Obj.cells #[Value.string R.letter, Value.int IntKind.i64 R.left, Value.int IntKind.i64 R.right] 160 (0, 0)) := ((Below.refl _ _).alloc (Nat.le_refl _) _).block w.heap.size (by simp) |>.trans (heap_alloc_new _ _)
    generalize (w.alloc (Obj.cells #[Value.string R.letter, Value.int IntKind.i64 R.left, Value.int IntKind.i64 R.right] 160)).alloc (Obj.cells #[Value.string R.letter, Value.int IntKind.i64 R.left, Value.int IntKind.i64 R.right] 160) = W2 at *
    have l0 : w.heap.size < W2.heap.size := (Array.getElem?_eq_some_iff.1 e0).1
    have d0 : W2.cell? ⟨w.heap.size, 0, none⟩ = some (.string R.letter) := by simp [World.cell?, e0]
    have d1 : W2.cell? ⟨w.heap.size, 1, none⟩ = some (.int .i64 R.left) := by simp [World.cell?, e0]
    have d2 : W2.cell? ⟨w.heap.size, 2, none⟩ = some (.int .i64 R.right) := by simp [World.cell?, e0]
    have J2 := BJ.ext C s w W2 HJ.out hB2 hN HC.out
    have hCx : ∀ k, ext C w.heap.size W2.heap.size k → k < W2.heap.size := fun k hk => by
      rcases hk with hk | hk
      · have := HC.out k hk; omega
      · exact hk.2
    have HJ2 := Lib.hid J2
    have HCx := Lib.hid hCx
    have HB2 := Lib.hid hB2
    have hcg2 := J2.cg
    have hcs2 := J2.cs
    clear hN hB2 e0 J2 hCx hcg hcs k0 k1 k2
    by_cases hp : R.letter.toList.isEmpty = true
    · rw [hp]
      have hpr : (getR xs r).pair = true := by rw [HR.out]; rw [isEmpty_size] at hp; exact hp
      obtain ⟨q1, q2, q3, q4, q5⟩ := lens_pair hl hr hpr
      have hW := W1_pair hl hr hpr
      rw [HR.out] at q1 q2 q3 q4 hW
      obtain ⟨la, hla⟩ := Int.eq_ofNat_of_zero_le q1
      obtain ⟨ra, hra⟩ := Int.eq_ofNat_of_zero_le q3
      rw [hla] at q2 d1
      rw [hra] at q4 d2
      rw [hla, hra] at hW
      simp only [Int.toNat_natCast] at q2 q4 hW
      have HW := Lib.hid hW
      have hlenA : s.length + (W1 xs la).length ≤ 1099511627776 := by have := Hlen.out; rw [hW, List.length_append] at this; omega
      have hlenB : (s ++ W1 xs la).length + (W1 xs ra).length ≤ 1099511627776 := by have := Hlen.out; rw [hW, List.length_append] at this; rw [List.length_append]; omega
      have HlA := Lib.hid hlenA
      have HlB := Lib.hid hlenB
      clear hpr hp q5 hW q1 q3 hla hra hlenA hlenB
      go_wp2_with fail
      refine (Ih.out la q2 s _ W2 (by omega) HJ2.out HCx.out HlA.out).mono ?_
      rintro e w3 ⟨rfl, C3, g1, g2, g3, g4⟩
      have d2' : w3.cell? ⟨w.heap.size, 2, none⟩ = some (.int .i64 ra) := g4.cell (Or.inr ⟨Nat.le_refl _, l0⟩) d2
      have hcs3 := g3.cs
      have HJ3 := Lib.hid g3
      have G1 := Lib.hid g1
      have G2 := Lib.hid g2
      have G4 := Lib.hid g4
      clear g1 g2 g3 g4 hcs2 hcg2 d1 d2 d0
      go_wp2_with fail
      refine (Ih.out ra q4 (s ++ W1 xs la) _ w3 (by omega) HJ3.out G2.out HlB.out).mono ?_
      rintro e w4 ⟨rfl, C4, k1, k2, k3, k4⟩
      go_wp2_with fail
      go_end0
      refine ⟨rfl, C4, fun k hk => k1 _ (G1.out _ (.inl hk)), k2, ?_, ?_⟩
      · rw [HW.out, ← List.append_assoc]; exact k3
      · exact ((Wk.of_below HB2.out HC.out).trans (G4.out.mono fun k hk => .inl hk)).trans (k4.mono fun k hk => G1.out _ (.inl hk))
    · have hp2 : R.letter.toList.isEmpty = false := by simpa using hp
      have hpr : (getR xs r).pair = false := by rw [HR.out]; rw [isEmpty_size] at hp2; exact hp2
      have hW := W1_let hpr
      have hsz := isLet_size (lens_isLet hl hr hpr)
      rw [HR.out] at hW hsz
      have HW := Lib.hid hW
      have hlenA : s.length + R.letter.size ≤ 140737488355328 := by
        have := Hlen.out
        omega
      rw [hp2]
      clear hp hpr hW hp2 hcs2 hcg2
      have W := Lib.hid (writeString_any B b s R.letter W2 HJ2.out.bld hlenA HJ2.out.hB)
      go_wp2_with fail
      refine W.out.mono ?_
      rintro e w3 ⟨rfl, hb3, hbl3, ho3⟩
      obtain ⟨J3, hw3⟩ := HJ2.out.written hb3 hbl3 ho3 HCx.out
      go_wp2_with fail
      go_end0
      refine ⟨rfl, _, fun k hk => .inl hk, fun k hk => Nat.lt_of_lt_of_le (HCx.out k hk) hw3.size, ?_, (Wk.of_below HB2.out HC.out).trans (hw3.mono fun k hk => .inl hk)⟩
      rw [HW.out]; exact J3
end
end Go.Proofs.Ytfapnipmgmpgaaa

namespace Go.Proofs.Ytfapnipmgmpgaaa
open Go.RowKit

theorem foldl_word (f : Nat → List UInt8) (l : List Nat) (s : List UInt8) : l.foldl (fun s r => s ++ f r) s = s ++ l.flatMap f := by
  induction l generalizing s with
  | nil => simp
  | cons a l ih => rw [List.foldl_cons, ih]; simp

set_option maxRecDepth 100000 in
set_option maxHeartbeats 2000000 in
theorem unpack_any (vR vL : Value) (xs : List GRule) (ls : List Int) (i j : Int) (w : World) (hR : Sl RuleE w w.heap.size vR xs) (hL : Sl IntE w w.heap.size vL ls) (hl : lens xs = some ls) (hn : xs.length ≤ 1099511627776)
    (hlen : (cutL (wordG xs) i j).length ≤ 1099511627776) :
    Calls Try.prog 156 #[.agg #[vR], vL, .int .i64 i, .int .i64 j] w fun e w' => e = .returned (.string ⟨(cutL (wordG xs) i j).toArray⟩) ∧ Below w.heap.size w w' := by
  have HR := Lib.hid hR
  have HL := Lib.hid hL
  obtain ⟨AR, cR, rfl, _⟩ := hR
  obtain ⟨AL, cL, rfl, _⟩ := hL
  have hword := pieces_word hl (i := i) (j := j)
  have Hword := Lib.hid hword
  have Hl := Lib.hid hl
  clear hword hl
  go_enter Try.func156, Try.ntmps156
  go_wp2_with fail
  have hz0 : (((w.alloc (Obj.cells #[Value.slice AR xs.length cR] 32)).alloc (Obj.cells #[Value.pointer none, Value.slice none 0 0] 149)).alloc (Obj.cells #[Value.func (Fn.func 174) #[] #[Value.pointer (some ⟨w.heap.size, 0, none⟩), Value.pointer (some ⟨w.heap.size + 1 + 1, 0, none⟩), Value.pointer (some ⟨w.heap.size + 1, 0, none⟩)]] 173)).heap.size = w.heap.size + 3 := by simp
  have hB0 : Below w.heap.size w (((w.alloc (Obj.cells #[Value.slice AR xs.length cR] 32)).alloc (Obj.cells #[Value.pointer none, Value.slice none 0 0] 149)).alloc (Obj.cells #[Value.func (Fn.func 174) #[] #[Value.pointer (some ⟨w.heap.size, 0, none⟩), Value.pointer (some ⟨w.heap.size + 1 + 1, 0, none⟩), Value.pointer (some ⟨w.heap.size + 1, 0, none⟩)]] 173)) := (by repeat (first | exact Below.refl _ _ | (refine Below.alloc ?_ (by first | omega | (simp; done) | (simp; omega)) _) | refine below_drewN ?_ _ | refine Below.drew ?_))
  have hx0 : (((w.alloc (Obj.cells #[Value.slice AR xs.length cR] 32)).alloc (Obj.cells #[Value.pointer none, Value.slice none 0 0] 149)).alloc (Obj.cells #[Value.func (Fn.func 174) #[] #[Value.pointer (some ⟨w.heap.size, 0, none⟩), Value.pointer (some ⟨w.heap.size + 1 + 1, 0, none⟩), Value.pointer (some ⟨w.heap.size + 1, 0, none⟩)]] 173)).cell? ⟨w.heap.size, 0, none⟩ = some (.slice AR xs.length cR) := by simp [go_sem]
  have hx2 : (((w.alloc (Obj.cells #[Value.slice AR xs.length cR] 32)).alloc (Obj.cells #[Value.pointer none, Value.slice none 0 0] 149)).alloc (Obj.cells #[Value.func (Fn.func 174) #[] #[Value.pointer (some ⟨w.heap.size, 0, none⟩), Value.pointer (some ⟨w.heap.size + 1 + 1, 0, none⟩), Value.pointer (some ⟨w.heap.size + 1, 0, none⟩)]] 173)).cell? ⟨w.heap.size + 2, 0, none⟩ = some (.func (.func 174) #[] #[.pointer (some ⟨w.heap.size, 0, none⟩), .pointer (some ⟨w.heap.size + 2, 0, none⟩), .pointer (some ⟨w.heap.size + 1, 0, none⟩)]) := by simp [go_sem]
  have hx1 : (((w.alloc (Obj.cells #[Value.slice AR xs.length cR] 32)).alloc (Obj.cells #[Value.pointer none, Value.slice none 0 0] 149)).alloc (Obj.cells #[Value.func (Fn.func 174) #[] #[Value.pointer (some ⟨w.heap.size, 0, none⟩), Value.pointer (some ⟨w.heap.size + 1 + 1, 0, none⟩), Value.pointer (some ⟨w.heap.size + 1, 0, none⟩)]] 173)).heap[w.heap.size + 1]? = some (.cells #[.pointer none, .slice none 0 0] 149 (0, 0)) := by
    have h1 : ((w.alloc (Obj.cells #[Value.slice AR xs.length cR] 32)).alloc (Obj.cells #[Value.pointer none, Value.slice none 0 0] 149)).heap[w.heap.size + 1]? = some (.cells #[.pointer none, .slice none 0 0] 149 (0, 0)) := by
      have := heap_alloc_new (w.alloc (Obj.cells #[Value.slice AR xs.length cR] 32)) (Obj.cells #[Value.pointer none, Value.slice none 0 0] 149)
      rwa [show (w.alloc (Obj.cells #[Value.slice AR xs.length cR] 32)).heap.size = w.heap.size + 1 by simp] at this
    exact (Below.heap_alloc _ _ _ (by simp)).trans h1
  have hnb : ∀ c fz, (((w.alloc (Obj.cells #[Value.slice AR xs.length cR] 32)).alloc (Obj.cells #[Value.pointer none, Value.slice none 0 0] 149)).alloc (Obj.cells #[Value.func (Fn.func 174) #[] #[Value.pointer (some ⟨w.heap.size, 0, none⟩), Value.pointer (some ⟨w.heap.size + 1 + 1, 0, none⟩), Value.pointer (some ⟨w.heap.size + 1, 0, none⟩)]] 173)).heap[w.heap.size + 2]? ≠ some (.cells c 5 fz) := fun c fz => (((((NewNoB.same w).alloc (NoB.cells (by decide))).alloc (NoB.cells (by decide))).alloc (NoB.cells (by decide)))) (w.heap.size + 2) (by omega) c fz
  generalize ((w.alloc (Obj.cells #[Value.slice AR xs.length cR] 32)).alloc (Obj.cells #[Value.pointer none, Value.slice none 0 0] 149)).alloc (Obj.cells #[Value.func (Fn.func 174) #[] #[Value.pointer (some ⟨w.heap.size, 0, none⟩), Value.pointer (some ⟨w.heap.size + 1 + 1, 0, none⟩), Value.pointer (some ⟨w.heap.size + 1, 0, none⟩)]] 173) = w0 at *
  have hJ : BJ xs (.slice AR xs.length cR) w.heap.size (w.heap.size + 2) (w.heap.size + 1) (w.heap.size + 1) (fun k => k < w.heap.size + 1 ∨ k = w.heap.size + 2) [] w0 := by
    refine ⟨.inl ⟨Nat.le_refl _, _, hx1, World.ownsRow_nil _ _ _ _, by simp [Value.ownBlock]⟩, by omega, by omega, ?_, .inl (by omega), .inr rfl, hx0, hx2, ?_⟩
    · rintro k (h | h) hk c fz
      · omega
      · subst h; exact hnb c fz
    · exact (HR.out.below hB0).more fun k hk => .inl (by omega)
  have HB0 := Lib.hid hB0
  have HJ := Lib.hid hJ
  have HZ0 := Lib.hid hz0
  clear hz0 hB0 hx0 hx1 hx2 hnb hJ
  have hcnt : ∀ l : List Nat, (l.foldl (fun s r => s ++ W1 xs r) []).length = (l.flatMap (W1 xs)).length := fun l => by rw [foldl_word]; simp
  refine (pieces_any (BJ xs (.slice AR xs.length cR) w.heap.size (w.heap.size + 2) (w.heap.size + 1) (w.heap.size + 1)) (fun s r => s ++ W1 xs r) (fun s r => s.length + (W1 xs r).length ≤ 1099511627776) 174 #[.pointer (some ⟨w.heap.size, 0, none⟩), .pointer (some ⟨w.heap.size + 2, 0, none⟩), .pointer (some ⟨w.heap.size + 1, 0, none⟩)] xs ls i j Hl.out hn (enters_of Try.func174 (by kernel_rfl) rfl) BJ.ext
    (fun C s r w' hJ hok hr hC => spell_any ls Hl.out r s C w' hr hJ hC hok) (.slice AL ls.length cL) (.slice AR xs.length cR) [] (fun k => k < w.heap.size + 1 ∨ k = w.heap.size + 2) w0 HJ.out ?_ ?_ ?_ HJ.out.sl).mono ?_
  · intro l1 r l2 e
    rw [hcnt]
    have := congrArg (fun l => (l.flatMap (W1 xs)).length) e
    simp only [Hword.out, List.flatMap_append, List.flatMap_cons, List.length_append] at this
    omega
  · intro k hk
    have := HZ0.out
    omega
  · exact (HL.out.below HB0.out).more fun k hk => .inl (by omega)
  rintro e w2 ⟨rfl, C2, g1, g2, g3, g4⟩
  rw [foldl_word, List.nil_append, Hword.out] at g3
  have hb2 : Below (w.heap.size + 1) w0 w2 := g4.below fun k hk => .inl hk
  have HB2 := Lib.hid (HB0.out.trans (hb2.mono (by omega)))
  have S := Lib.hid (g3.bld.string g3.hB)
  have hs2 : w.heap.size ≤ w2.heap.size := by have := g3.hB; omega
  clear g1 g2 g3 g4 hb2 hcnt
  go_wp2_with fail
  refine S.out.mono ?_
  rintro e w3 ⟨rfl, hb3⟩
  go_wp2_with fail
  go_ret
  exact ⟨rfl, HB2.out.trans (hb3.mono (by omega))⟩
end Go.Proofs.Ytfapnipmgmpgaaa

namespace Go.Proofs.Ytfapnipmgmpgaaa
open Go.RowKit

set_option maxRecDepth 100000 in
set_option maxHeartbeats 1000000 in
/-- UnpackPart of a right part of a right grammar. -/
theorem unpackPart_any (v : Value) (xs : List GRule) (ls : List Int) (i j : Int) (w : World) (h : Sl RuleE w w.heap.size v xs) (hn : xs.length ≤ 400) (hl : lens xs = some ls) (hij : 0 ≤ i ∧ i ≤ j ∧ j ≤ lastI ls) :
    Calls Try.prog 111 #[.agg #[v], .int .i64 i, .int .i64 j] w fun e w' => e = .returned (.tuple #[.string (if j - i > 2000 then ⟨#[]⟩ else ⟨(cutL (wordG xs) i j).toArray⟩), .int .i64 (if j - i > 2000 then 3 else 0)]) ∧ Below w.heap.size w w' := by
  have h1 := fun o => (h.below ((Below.refl w.heap.size w).alloc (Nat.le_refl _) o)).le (B' := (w.alloc o).heap.size) (by simp)
  have H1 := Lib.hid h1
  clear h1
  obtain ⟨A, c, rfl, _⟩ := h
  have Hl := Lib.hid hl
  have hcl : (cutL (wordG xs) i j).length = (j - i).toNat := by
    have hw := wordG_len hl
    have := cutL_len (l := wordG xs) hij.1 hij.2.1 (by omega)
    omega
  have Hcl := Lib.hid hcl
  have hlast : lastI ls ≤ 1000000000000000 := by
    by_cases h0 : 0 < xs.length
    · rw [lastI_at hl h0]; exact (lens_pos' hl (by omega)).2
    · have : ls = [] := List.eq_nil_of_length_eq_zero (by rw [lens_length hl]; omega)
      subst this; decide
  clear hl hcl
  go_enter Try.func111, Try.ntmps111
  go_wp2_with fail
  refine (lengths_any _ xs _ (H1.out _) (by omega)).mono ?_
  rintro e w1 ⟨hb1, hpost⟩
  have hcase : ∃ vv, e = .returned (.tuple #[vv, .bool true]) ∧ Sl IntE w1 w1.heap.size vv ls := by
    rcases hpost with ⟨l2, vv, hl2, he, ho⟩ | ⟨hl2, he⟩
    · have e2 : l2 = ls := by have := Hl.out; rw [hl2] at this; exact Option.some.inj this
      subst e2
      exact ⟨vv, by rw [he]; simp [hn], ho.sl⟩
    · rw [Hl.out] at hl2; cases hl2
  obtain ⟨vv, rfl, hL⟩ := hcase
  have hz1 : w.heap.size < w1.heap.size := by have := hb1.size; simp at this; omega
  have a1 : w1.cell? ⟨w.heap.size, 0, none⟩ = some (.slice A xs.length c) := (hb1.cell (p := ⟨w.heap.size, 0, none⟩) (by simp)).trans (by simp [go_sem])
  have S1 := Lib.hid ((H1.out (Obj.cells #[Value.slice A xs.length c] 32)).up hb1)
  have B1 := Lib.hid (((Below.refl w.heap.size w).alloc (Nat.le_refl _) (Obj.cells #[Value.slice A xs.length c] 32)).trans (hb1.mono (by simp)))
  have HL := Lib.hid hL
  obtain ⟨AL, cL, rfl, _⟩ := hL
  obtain ⟨i1, i2, i3⟩ := hij
  have hw1 : inR i 0 j = true := by simp [inR, i1, i2]
  have hgt : ¬ (j > lastI ls) := by omega
  clear hb1 hpost
  go_wp2_with fail
  refine (within_yes _ _ _ _ hw1).mono ?_
  rintro e w' ⟨rfl, rfl⟩
  go_wp2_with fail
  refine (last_any _ ls _ HL.out).mono ?_
  rintro e w' ⟨rfl, rfl⟩
  by_cases hbig : j - i > 2000
  · go_wp2_with fail
    go_ret2
    exact ⟨by first | rfl | (simp only [if_pos hbig]; rfl), B1.out⟩
  · go_wp2_with fail
    refine (unpack_any _ _ xs ls i j _ S1.out HL.out Hl.out (by omega) (by rw [Hcl.out]; omega)).mono ?_
    rintro e w2 ⟨rfl, hb2⟩
    go_wp2_with fail
    go_ret2
    exact ⟨by first | rfl | (simp only [if_neg (show ¬ j - i > 2000 by omega)]; rfl), B1.out.trans (hb2.mono (by omega))⟩

/-- What UnpackWord answers. -/
def upV (xs : List GRule) : List UInt8 := if gramOk xs && decide ((wordG xs).length ≤ 2000) then wordG xs else []
def upC (xs : List GRule) : Int := if gramOk xs then (if (wordG xs).length ≤ 2000 then 0 else 3) else 1
set_option maxRecDepth 100000 in
set_option maxHeartbeats 1000000 in
theorem unpackWord_any (v : Value) (xs : List GRule) (w : World) (h : Sl RuleE w w.heap.size v xs) (hn : xs.length ≤ 1048576) :
    Calls Try.prog 56 #[.agg #[v]] w fun e w' => e = .returned (.tuple #[.string ⟨(upV xs).toArray⟩, .int .i64 (upC xs)]) ∧ Below w.heap.size w w' := by
  have h1 := fun o => (h.below ((Below.refl w.heap.size w).alloc (Nat.le_refl _) o)).le (B' := (w.alloc o).heap.size) (by simp)
  have H1 := Lib.hid h1
  clear h1
  obtain ⟨A, c, rfl, _⟩ := h
  go_enter Try.func56, Try.ntmps56
  go_wp2_with fail
  refine (LengthOf_any _ xs _ (H1.out _) (by omega)).mono ?_
  rintro e w1 ⟨rfl, hb1⟩
  have hz1 : w.heap.size < w1.heap.size := by have := hb1.size; simp at this; omega
  have a1 : w1.cell? ⟨w.heap.size, 0, none⟩ = some (.slice A xs.length c) := (hb1.cell (p := ⟨w.heap.size, 0, none⟩) (by simp)).trans (by simp [go_sem])
  have S1 := Lib.hid ((H1.out (Obj.cells #[Value.slice A xs.length c] 32)).up hb1)
  have B1 := Lib.hid (((Below.refl w.heap.size w).alloc (Nat.le_refl _) (Obj.cells #[Value.slice A xs.length c] 32)).trans (hb1.mono (by simp)))
  clear hb1
  by_cases hok : gramOk xs = true
  · obtain ⟨h4, ls, hl⟩ := gram_lens hok
    have hV : lenV xs = lastI ls := by simp [lenV, hok, gramLen_of hl]
    have hC : lenC xs = 0 := by simp [lenC, hok]
    have hw := wordG_len hl
    have Hl := Lib.hid hl
    have Hw := Lib.hid hw
    have Hok := Lib.hid hok
    rw [hV, hC]
    clear hV hC hl hw hok
    go_wp2_with fail
    have hp0 : 0 ≤ lastI ls := by have := Hw.out; omega
    have hw := Hw.out
    have hcut : cutL (wordG xs) 0 (lastI ls) = wordG xs := cutL_all (Int.le_refl _) (by omega)
    have U := unpackPart_any _ xs ls 0 (lastI ls) _ S1.out h4 Hl.out ⟨Int.le_refl _, hp0, Int.le_refl _⟩
    rw [hcut] at U
    by_cases hb : (wordG xs).length ≤ 2000
    · have e1 : upV xs = wordG xs := by simp [upV, Hok.out, hb]
      have e2 : upC xs = 0 := by simp [upC, Hok.out, hb]
      have e3 : ¬ (lastI ls - 0 > 2000) := by omega
      rw [if_neg e3, if_neg e3] at U
      have HU := Lib.hid U
      have E1 := Lib.hid e1
      have E2 := Lib.hid e2
      clear e1 e2 e3 U hcut hw hb hp0
      refine HU.out.mono ?_
      rintro e w2 ⟨rfl, hb2⟩
      go_wp2_with fail
      go_ret2
      exact ⟨by rw [E1.out, E2.out]; rfl, B1.out.trans (hb2.mono (by omega))⟩
    · have e1 : upV xs = [] := by simp [upV, hb]
      have e2 : upC xs = 3 := by simp [upC, Hok.out, hb]
      have e3 : lastI ls - 0 > 2000 := by omega
      rw [if_pos e3, if_pos e3] at U
      have HU := Lib.hid U
      have E1 := Lib.hid e1
      have E2 := Lib.hid e2
      clear e1 e2 e3 U hcut hw hb hp0
      refine HU.out.mono ?_
      rintro e w2 ⟨rfl, hb2⟩
      go_wp2_with fail
      go_ret2
      exact ⟨by rw [E1.out, E2.out]; rfl, B1.out.trans (hb2.mono (by omega))⟩
  · have hV : lenV xs = 0 := by simp [lenV, hok]
    have hC : lenC xs = 1 := by simp [lenC, hok]
    have e1 : upV xs = [] := by simp [upV, hok]
    have e2 : upC xs = 1 := by simp [upC, hok]
    have E1 := Lib.hid e1
    have E2 := Lib.hid e2
    rw [hV, hC]
    clear hV hC e1 e2 hok
    go_wp2_with fail
    go_ret2
    exact ⟨by rw [E1.out, E2.out]; rfl, B1.out⟩
end Go.Proofs.Ytfapnipmgmpgaaa

