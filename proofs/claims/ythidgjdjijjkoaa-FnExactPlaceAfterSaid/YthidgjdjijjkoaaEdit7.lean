import Derived.Test.YthidgjdjijjkoaaEdit3
namespace Go.Proofs.Ythidgjdjijjkoaa
open Go.RowKit

theorem paC_1 {n : Int} {e : GEdit} {p : Int} (h : editOk e = false) : paC n e p = 1 ∧ paV n e p = 0 := by
  have : paC n e p = 1 := by simp [paC, h]
  exact ⟨this, by simp [paV, this]⟩
theorem paC_2 {n : Int} {e : GEdit} {p : Int} (h : editOk e = true) (h2 : (inR n 0 1000000000000000 && inR p 0 n && editFits e n) = false) : paC n e p = 2 ∧ paV n e p = 0 := by
  have : paC n e p = 2 := by simp only [paC, h, h2]; simp
  exact ⟨this, by simp [paV, this]⟩
theorem paC_3 {n : Int} {e : GEdit} {p : Int} (h : editOk e = true) (h2 : (inR n 0 1000000000000000 && inR p 0 n && editFits e n) = true) (h3 : ¬ editLen e n ≤ 1000000000000000) : paC n e p = 3 ∧ paV n e p = 0 := by
  have : paC n e p = 3 := by simp only [paC, h, h2]; simp [h3]
  exact ⟨this, by simp [paV, this]⟩
theorem paC_0 {n : Int} {e : GEdit} {p : Int} (h : editOk e = true) (h2 : (inR n 0 1000000000000000 && inR p 0 n && editFits e n) = true) (h3 : editLen e n ≤ 1000000000000000) : paC n e p = 0 ∧ paV n e p = placeP e p := by
  have : paC n e p = 0 := by simp only [paC, h, h2]; simp [h3]
  exact ⟨this, by simp [paV, this]⟩

set_option maxRecDepth 100000 in
set_option maxHeartbeats 4000000 in
theorem implPlaceAfter_any (n : Int) (v : Value) (e : GEdit) (p : Int) (w : World) (h : EditV w w.heap.size v e) (hn : e.part.length ≤ 1099511627776) (hm : e.map.size ≤ maxLen) :
    Calls Try.prog 46 #[.int .i64 n, v, .int .i64 p] w fun r w' => r = .returned (.tuple #[.int .i64 (paV n e p), .int .i64 (paC n e p)]) ∧ Below w.heap.size w w' := by
  have hV := fun o => (h.below ((Below.refl w.heap.size w).alloc (Nat.le_refl _) o)).le (B' := (w.alloc o).heap.size) (by simp)
  have HV := Lib.hid hV
  clear hV
  obtain ⟨vR, rfl, hR⟩ := h
  obtain ⟨AR, cR, rfl, _⟩ := hR
  go_enter Try.func46, Try.ntmps46
  go_wp2_with fail
  refine (implValidEdit_any _ e _ (HV.out _) hn hm).mono ?_
  rintro r w1 ⟨rfl, hb1⟩
  have z1 : w.heap.size < w1.heap.size := Nat.lt_of_lt_of_le (by simp) hb1.size
  have X1 := Lib.hid (Box6.new hb1)
  have V1 := Lib.hid ((HV.out _).up hb1)
  have B1 := Lib.hid (((Below.refl w.heap.size w).alloc (Nat.le_refl _) _).trans (hb1.mono (by simp)))
  clear hb1
  obtain ⟨x0, x1, x2, x3, x4, x5⟩ := X1.out
  by_cases he : editOk e = true
  · have HE := Lib.hid he
    have g0 : (!editOk e) = false := by simp [he]
    have hG := editOk_get he
    clear he
    by_cases c1 : inR n 0 1000000000000000 = true
    · have C1 := Lib.hid c1
      have hn0 : 0 ≤ n ∧ n ≤ 1000000000000000 := by simpa [inR] using c1
      clear c1
      go_wp2_with fail
      refine (within_yes _ _ _ _ C1.out).mono ?_
      rintro r w' ⟨rfl, rfl⟩
      by_cases c2 : inR p 0 n = true
      · have C2 := Lib.hid c2
        have hp0 : 0 ≤ p ∧ p ≤ n := by simpa [inR] using c2
        clear c2
        go_wp2_with fail
        refine (within_yes _ _ _ _ C2.out).mono ?_
        rintro r w' ⟨rfl, rfl⟩
        go_wp2_with fail
        refine (fits_any _ e n _ V1.out hG.1 hG.2.2.2.2.1).mono ?_
        rintro r w2 ⟨rfl, hb2⟩
        have z2 : w.heap.size < w2.heap.size := Nat.lt_of_lt_of_le z1 hb2.size
        have X2 := Lib.hid (X1.out.up hb2 z1)
        have V2 := Lib.hid (V1.out.up hb2)
        have B2 := Lib.hid (B1.out.trans (hb2.mono B1.out.size))
        clear hb2 x0 x1 x2 x3 x4 x5 X1 V1
        obtain ⟨x0, x1, x2, x3, x4, x5⟩ := X2.out
        by_cases c3 : editFits e n = true
        · have C3 := Lib.hid c3
          have g3 : (!editFits e n) = false := by simp [c3]
          clear c3
          have hall : (inR n 0 1000000000000000 && inR p 0 n && editFits e n) = true := by rw [C1.out, C2.out, C3.out]; rfl
          have Hall := Lib.hid hall
          clear hall
          go_wp2_with fail
          refine (grows_any _ e n _ V2.out HE.out hn hn0.1 hn0.2 C3.out).mono ?_
          rintro r w3 ⟨out, rfl, hout, hb3⟩
          have z3 : w.heap.size < w3.heap.size := Nat.lt_of_lt_of_le z2 hb3.size
          have X3 := Lib.hid (X2.out.up hb3 z2)
          have V3 := Lib.hid (V2.out.up hb3)
          have B3 := Lib.hid (B2.out.trans (hb3.mono B2.out.size))
          clear hb3 x0 x1 x2 x3 x4 x5 X2 V2
          obtain ⟨x0, x1, x2, x3, x4, x5⟩ := X3.out
          by_cases c4 : editLen e n ≤ 1000000000000000
          · have C4 := Lib.hid c4
            have g4 : decide (editLen e n ≤ 1000000000000000) = true := by simp [c4]
            have ho := hout c4
            rw [g4]
            clear c4 hout g4
            obtain ⟨pc, pv⟩ := paC_0 (p := p) HE.out Hall.out C4.out
            have PC := Lib.hid pc
            have PV := Lib.hid pv
            clear pc pv g0 g3
            have hbd : ∀ q, 0 ≤ q ∧ q ≤ 1000000000000000 → -1000000000000000 ≤ lessP e q ∧ lessP e q ≤ 2000000000000000 := by
              intro q hq; unfold lessP; split
              · omega
              · split <;> omega
            have Hbd := Lib.hid hbd
            clear hbd
            have hrem : ∀ W, EditV W W.heap.size (.agg #[.int .i64 e.kind, .int .i64 e.i, .int .i64 e.j, .int .i64 e.k, .slice AR e.part.length cR, .string e.map]) e → e.i ≤ e.j → ∀ q, 0 ≤ q ∧ q ≤ 1000000000000000 → Calls Try.prog 107 #[.agg #[.int .i64 e.kind, .int .i64 e.i, .int .i64 e.j, .int .i64 e.k, .slice AR e.part.length cR, .string e.map], .int .i64 q] W fun r w' => r = .returned (.int .i64 (lessP e q)) ∧ Below W.heap.size W w' :=
              fun W hW hij q hq => removed_any _ e q W hW (by simp [inR]; omega) (by simp [inR]; omega) hij hG.2.1.1 hG.2.2.1.2
            have Hrem := Lib.hid hrem
            clear hrem
            obtain ⟨g1, g2, g3, g4, g5, g6, g7⟩ := hG
            have hlb := gramLen_bounds e.part
            obtain ⟨k, i, j, kk, part, map⟩ := e
            simp only at g1 g2 g3 g4 g5 g6 g7 hn x0 x1 x2 x3 x4 x5 ho hlb
            have wji : IntKind.i64.wrap (j - i) = j - i := IntWalk.i64_in _ (by omega)
            clear g7 hm
            rcases kind7 g1 with rfl | rfl | rfl | rfl | rfl | rfl | rfl
            · have hj0 : j = 0 := g6 rfl
              subst hj0
              have wng : IntKind.i64.wrap (-i) = -i := IntWalk.i64_in _ (by omega)
              have hout : out = gramLen part := by simp [editLen] at ho; omega
              have Hout := Lib.hid hout
              have wn : IntKind.i64.wrap (p + out) = p + out := IntWalk.i64_in _ (by omega)
              clear ho hout
              by_cases cA : i < p
              · have a1 : decide (i < p) = true := by simp [cA]
                have b1 : decide (p < 0) = false := by simp; omega
                have HA := Lib.hid cA
                go_wp2_with fail
                go_quiet (fail)
                go_wp2_with fail
                go_ret2
                exact ⟨by rw [PC.out, PV.out]; simp [placeP, HA.out, Hout.out], B3.out.trans ((below_drewN (Below.refl _ _) _).mono B3.out.size)⟩
              · have a1 : decide (i < p) = false := by simp; omega
                have HA := Lib.hid cA
                go_wp2_with fail
                go_quiet (fail)
                go_wp2_with fail
                go_ret2
                exact ⟨by rw [PC.out, PV.out]; simp [placeP, of_decide_eq_false a1], B3.out.trans ((below_drewN (Below.refl _ _) _).mono B3.out.size)⟩
            · clear ho
              by_cases cA : i < p
              · have a1 : decide (i < p) = true := by simp [cA]
                have HA := Lib.hid cA
                by_cases cB : p < j
                · have b1 : decide (p < j) = true := by simp [cB]
                  have HB := Lib.hid cB
                  clear cA cB
                  go_wp2_with fail
                  go_quiet (fail)
                  go_wp2_with fail
                  refine (Hrem.out _ (V3.out.up (below_drewN (Below.refl _ _) _)) (g5 (by omega)) p (by omega)).mono ?_
                  rintro r w4 ⟨rfl, hb4⟩
                  have B4 := Lib.hid (B3.out.trans (((below_drewN (Below.refl w3.heap.size w3) _).trans hb4).mono B3.out.size))
                  clear hb4
                  go_wp2_with fail
                  go_ret2
                  exact ⟨by rw [PC.out, PV.out]; simp [placeP], B4.out⟩
                · have b1 : decide (p < j) = false := by simp; omega
                  have HB := Lib.hid cB
                  clear cA cB
                  go_wp2_with fail
                  go_quiet (fail)
                  go_wp2_with fail
                  refine (Hrem.out _ (V3.out.up (below_drewN (Below.refl _ _) _)) (g5 (by omega)) p (by omega)).mono ?_
                  rintro r w4 ⟨rfl, hb4⟩
                  have B4 := Lib.hid (B3.out.trans (((below_drewN (Below.refl w3.heap.size w3) _).trans hb4).mono B3.out.size))
                  clear hb4
                  go_wp2_with fail
                  go_ret2
                  exact ⟨by rw [PC.out, PV.out]; simp [placeP], B4.out⟩
              · have a1 : decide (i < p) = false := by simp; omega
                have HA := Lib.hid cA
                clear cA
                go_wp2_with fail
                go_quiet (fail)
                go_wp2_with fail
                refine (Hrem.out _ (V3.out.up (below_drewN (Below.refl _ _) _)) (g5 (by omega)) p (by omega)).mono ?_
                rintro r w4 ⟨rfl, hb4⟩
                have B4 := Lib.hid (B3.out.trans (((below_drewN (Below.refl w3.heap.size w3) _).trans hb4).mono B3.out.size))
                clear hb4
                go_wp2_with fail
                go_ret2
                exact ⟨by rw [PC.out, PV.out]; simp [placeP], B4.out⟩
            · have hout : out = j - i := by simp [editLen] at ho; omega
              have Hout := Lib.hid hout
              have wn : IntKind.i64.wrap (p + out) = p + out := IntWalk.i64_in _ (by have := g5 (by omega); omega)
              clear ho hout
              by_cases cA : i < p
              · have a1 : decide (i < p) = true := by simp [cA]
                have HA := Lib.hid cA
                by_cases cB : p < j
                · have b1 : decide (p < j) = true := by simp [cB]
                  have HB := Lib.hid cB
                  clear cA cB
                  by_cases cC : kk < p
                  · have HC := Lib.hid cC
                    go_wp2_with fail
                    go_quiet (fail)
                    go_wp2_with fail
                    go_ret2
                    exact ⟨by rw [PC.out, PV.out]; simp [placeP, HC.out, Hout.out], B3.out.trans ((below_drewN (Below.refl _ _) _).mono B3.out.size)⟩
                  · have d1 : decide (kk < p) = false := by simp; omega
                    go_wp2_with fail
                    go_quiet (fail)
                    go_wp2_with fail
                    go_ret2
                    exact ⟨by rw [PC.out, PV.out]; simp [placeP, of_decide_eq_false d1], B3.out.trans ((below_drewN (Below.refl _ _) _).mono B3.out.size)⟩
                · have b1 : decide (p < j) = false := by simp; omega
                  have HB := Lib.hid cB
                  clear cA cB
                  by_cases cC : kk < p
                  · have HC := Lib.hid cC
                    go_wp2_with fail
                    go_quiet (fail)
                    go_wp2_with fail
                    go_ret2
                    exact ⟨by rw [PC.out, PV.out]; simp [placeP, HC.out, Hout.out], B3.out.trans ((below_drewN (Below.refl _ _) _).mono B3.out.size)⟩
                  · have d1 : decide (kk < p) = false := by simp; omega
                    go_wp2_with fail
                    go_quiet (fail)
                    go_wp2_with fail
                    go_ret2
                    exact ⟨by rw [PC.out, PV.out]; simp [placeP, of_decide_eq_false d1], B3.out.trans ((below_drewN (Below.refl _ _) _).mono B3.out.size)⟩
              · have a1 : decide (i < p) = false := by simp; omega
                have HA := Lib.hid cA
                clear cA
                by_cases cC : kk < p
                · have HC := Lib.hid cC
                  go_wp2_with fail
                  go_quiet (fail)
                  go_wp2_with fail
                  go_ret2
                  exact ⟨by rw [PC.out, PV.out]; simp [placeP, HC.out, Hout.out], B3.out.trans ((below_drewN (Below.refl _ _) _).mono B3.out.size)⟩
                · have d1 : decide (kk < p) = false := by simp; omega
                  go_wp2_with fail
                  go_quiet (fail)
                  go_wp2_with fail
                  go_ret2
                  exact ⟨by rw [PC.out, PV.out]; simp [placeP, of_decide_eq_false d1], B3.out.trans ((below_drewN (Below.refl _ _) _).mono B3.out.size)⟩
            · clear ho
              by_cases cA : i < p
              · have a1 : decide (i < p) = true := by simp [cA]
                have HA := Lib.hid cA
                by_cases cB : p < j
                · have b1 : decide (p < j) = true := by simp [cB]
                  have HB := Lib.hid cB
                  by_cases cK : kk ≤ i
                  · have k1' : decide (i < kk) = false := by simp; omega
                    have hT : lessP ⟨4, i, j, kk, part, map⟩ kk = kk := by simp [lessP, cK]
                    have hTb := Hbd.out kk (by omega)
                    rw [hT] at hTb
                    have HT := Lib.hid hT
                    clear hT cK
                    have wa : IntKind.i64.wrap (kk + p) = kk + p := IntWalk.i64_in _ (by omega)
                    have wb : IntKind.i64.wrap (kk + p - i) = kk + p - i := IntWalk.i64_in _ (by omega)
                    clear cA cB
                    go_wp2_with fail
                    go_quiet (fail)
                    go_wp2_with fail
                    go_ret2
                    exact ⟨by rw [PC.out, PV.out]; simp [placeP, HA.out, HB.out, HT.out], B3.out.trans ((below_drewN (Below.refl _ _) _).mono B3.out.size)⟩
                  · have k1' : decide (i < kk) = true := by simp; omega
                    have hkj : j ≤ kk := by rcases (show kk ≤ i ∨ j ≤ kk by have := C3.out; simp [editFits] at this; omega) with h | h <;> omega
                    have hT : lessP ⟨4, i, j, kk, part, map⟩ kk = kk - (j - i) := by simp only [lessP]; rw [if_neg (by omega), if_neg (by omega)]
                    have wk : IntKind.i64.wrap (kk - (j - i)) = kk - (j - i) := IntWalk.i64_in _ (by omega)
                    have hTb := Hbd.out kk (by omega)
                    rw [hT] at hTb
                    have HT := Lib.hid hT
                    clear hT cK
                    have wa : IntKind.i64.wrap ((kk - (j - i)) + p) = (kk - (j - i)) + p := IntWalk.i64_in _ (by omega)
                    have wb : IntKind.i64.wrap ((kk - (j - i)) + p - i) = (kk - (j - i)) + p - i := IntWalk.i64_in _ (by omega)
                    clear cA cB
                    go_wp2_with fail
                    go_quiet (fail)
                    go_wp2_with fail
                    go_ret2
                    exact ⟨by rw [PC.out, PV.out]; simp [placeP, HA.out, HB.out, HT.out], B3.out.trans ((below_drewN (Below.refl _ _) _).mono B3.out.size)⟩
                · have b1 : decide (p < j) = false := by simp; omega
                  have HB := Lib.hid cB
                  by_cases cK : kk ≤ i
                  · have k1' : decide (i < kk) = false := by simp; omega
                    have hT : lessP ⟨4, i, j, kk, part, map⟩ kk = kk := by simp [lessP, cK]
                    have hTb := Hbd.out kk (by omega)
                    rw [hT] at hTb
                    have HT := Lib.hid hT
                    clear hT cK
                    clear cA cB
                    go_wp2_with fail
                    go_quiet (fail)
                    go_wp2_with fail
                    refine (Hrem.out _ (V3.out.up (below_drewN (Below.refl _ _) _)) (g5 (by omega)) p (by omega)).mono ?_
                    rintro r w4 ⟨rfl, hb4⟩
                    have B4 := Lib.hid (B3.out.trans (((below_drewN (Below.refl w3.heap.size w3) _).trans hb4).mono B3.out.size))
                    clear hb4
                    have c0 := Hbd.out p (by omega)
                    obtain ⟨Q, hQ⟩ : ∃ Q, lessP ⟨4, i, j, kk, part, map⟩ p = Q := ⟨_, rfl⟩
                    rw [hQ] at c0
                    rw [hQ]
                    have HQ := Lib.hid hQ
                    clear hQ
                    have wa : IntKind.i64.wrap (Q + (j - i)) = Q + (j - i) := IntWalk.i64_in _ (by have := g5 (by omega); omega)
                    by_cases cD : kk < Q
                    · have HD := Lib.hid cD
                      go_wp2_with fail
                      go_ret2
                      exact ⟨by rw [PC.out, PV.out, show placeP ⟨4, i, j, kk, part, map⟩ p = Q + (j - i) from by simp only [placeP]; rw [if_neg (by decide), if_neg (by decide), if_neg (by decide), if_pos trivial, if_neg (fun h => of_decide_eq_false b1 h.2), HT.out, HQ.out, if_pos HD.out]]; rfl, B4.out⟩
                    · have d1 : decide (kk < Q) = false := by simp; omega
                      have HD := Lib.hid cD
                      go_wp2_with fail
                      go_ret2
                      exact ⟨by rw [PC.out, PV.out, show placeP ⟨4, i, j, kk, part, map⟩ p = Q from by simp only [placeP]; rw [if_neg (by decide), if_neg (by decide), if_neg (by decide), if_pos trivial, if_neg (fun h => of_decide_eq_false b1 h.2), HT.out, HQ.out, if_neg (of_decide_eq_false d1)]]; rfl, B4.out⟩
                  · have k1' : decide (i < kk) = true := by simp; omega
                    have hkj : j ≤ kk := by rcases (show kk ≤ i ∨ j ≤ kk by have := C3.out; simp [editFits] at this; omega) with h | h <;> omega
                    have hT : lessP ⟨4, i, j, kk, part, map⟩ kk = kk - (j - i) := by simp only [lessP]; rw [if_neg (by omega), if_neg (by omega)]
                    have wk : IntKind.i64.wrap (kk - (j - i)) = kk - (j - i) := IntWalk.i64_in _ (by omega)
                    have hTb := Hbd.out kk (by omega)
                    rw [hT] at hTb
                    have HT := Lib.hid hT
                    clear hT cK
                    clear cA cB
                    go_wp2_with fail
                    go_quiet (fail)
                    go_wp2_with fail
                    refine (Hrem.out _ (V3.out.up (below_drewN (Below.refl _ _) _)) (g5 (by omega)) p (by omega)).mono ?_
                    rintro r w4 ⟨rfl, hb4⟩
                    have B4 := Lib.hid (B3.out.trans (((below_drewN (Below.refl w3.heap.size w3) _).trans hb4).mono B3.out.size))
                    clear hb4
                    have c0 := Hbd.out p (by omega)
                    obtain ⟨Q, hQ⟩ : ∃ Q, lessP ⟨4, i, j, kk, part, map⟩ p = Q := ⟨_, rfl⟩
                    rw [hQ] at c0
                    rw [hQ]
                    have HQ := Lib.hid hQ
                    clear hQ
                    have wa : IntKind.i64.wrap (Q + (j - i)) = Q + (j - i) := IntWalk.i64_in _ (by have := g5 (by omega); omega)
                    by_cases cD : (kk - (j - i)) < Q
                    · have HD := Lib.hid cD
                      go_wp2_with fail
                      go_ret2
                      exact ⟨by rw [PC.out, PV.out, show placeP ⟨4, i, j, kk, part, map⟩ p = Q + (j - i) from by simp only [placeP]; rw [if_neg (by decide), if_neg (by decide), if_neg (by decide), if_pos trivial, if_neg (fun h => of_decide_eq_false b1 h.2), HT.out, HQ.out, if_pos HD.out]]; rfl, B4.out⟩
                    · have d1 : decide ((kk - (j - i)) < Q) = false := by simp; omega
                      have HD := Lib.hid cD
                      go_wp2_with fail
                      go_ret2
                      exact ⟨by rw [PC.out, PV.out, show placeP ⟨4, i, j, kk, part, map⟩ p = Q from by simp only [placeP]; rw [if_neg (by decide), if_neg (by decide), if_neg (by decide), if_pos trivial, if_neg (fun h => of_decide_eq_false b1 h.2), HT.out, HQ.out, if_neg (of_decide_eq_false d1)]]; rfl, B4.out⟩
              · have a1 : decide (i < p) = false := by simp; omega
                have HA := Lib.hid cA
                by_cases cK : kk ≤ i
                · have k1' : decide (i < kk) = false := by simp; omega
                  have hT : lessP ⟨4, i, j, kk, part, map⟩ kk = kk := by simp [lessP, cK]
                  have hTb := Hbd.out kk (by omega)
                  rw [hT] at hTb
                  have HT := Lib.hid hT
                  clear hT cK
                  clear cA
                  go_wp2_with fail
                  go_quiet (fail)
                  go_wp2_with fail
                  refine (Hrem.out _ (V3.out.up (below_drewN (Below.refl _ _) _)) (g5 (by omega)) p (by omega)).mono ?_
                  rintro r w4 ⟨rfl, hb4⟩
                  have B4 := Lib.hid (B3.out.trans (((below_drewN (Below.refl w3.heap.size w3) _).trans hb4).mono B3.out.size))
                  clear hb4
                  have c0 := Hbd.out p (by omega)
                  obtain ⟨Q, hQ⟩ : ∃ Q, lessP ⟨4, i, j, kk, part, map⟩ p = Q := ⟨_, rfl⟩
                  rw [hQ] at c0
                  rw [hQ]
                  have HQ := Lib.hid hQ
                  clear hQ
                  have wa : IntKind.i64.wrap (Q + (j - i)) = Q + (j - i) := IntWalk.i64_in _ (by have := g5 (by omega); omega)
                  by_cases cD : kk < Q
                  · have HD := Lib.hid cD
                    go_wp2_with fail
                    go_ret2
                    exact ⟨by rw [PC.out, PV.out, show placeP ⟨4, i, j, kk, part, map⟩ p = Q + (j - i) from by simp only [placeP]; rw [if_neg (by decide), if_neg (by decide), if_neg (by decide), if_pos trivial, if_neg (fun h => of_decide_eq_false a1 h.1), HT.out, HQ.out, if_pos HD.out]]; rfl, B4.out⟩
                  · have d1 : decide (kk < Q) = false := by simp; omega
                    have HD := Lib.hid cD
                    go_wp2_with fail
                    go_ret2
                    exact ⟨by rw [PC.out, PV.out, show placeP ⟨4, i, j, kk, part, map⟩ p = Q from by simp only [placeP]; rw [if_neg (by decide), if_neg (by decide), if_neg (by decide), if_pos trivial, if_neg (fun h => of_decide_eq_false a1 h.1), HT.out, HQ.out, if_neg (of_decide_eq_false d1)]]; rfl, B4.out⟩
                · have k1' : decide (i < kk) = true := by simp; omega
                  have hkj : j ≤ kk := by rcases (show kk ≤ i ∨ j ≤ kk by have := C3.out; simp [editFits] at this; omega) with h | h <;> omega
                  have hT : lessP ⟨4, i, j, kk, part, map⟩ kk = kk - (j - i) := by simp only [lessP]; rw [if_neg (by omega), if_neg (by omega)]
                  have wk : IntKind.i64.wrap (kk - (j - i)) = kk - (j - i) := IntWalk.i64_in _ (by omega)
                  have hTb := Hbd.out kk (by omega)
                  rw [hT] at hTb
                  have HT := Lib.hid hT
                  clear hT cK
                  clear cA
                  go_wp2_with fail
                  go_quiet (fail)
                  go_wp2_with fail
                  refine (Hrem.out _ (V3.out.up (below_drewN (Below.refl _ _) _)) (g5 (by omega)) p (by omega)).mono ?_
                  rintro r w4 ⟨rfl, hb4⟩
                  have B4 := Lib.hid (B3.out.trans (((below_drewN (Below.refl w3.heap.size w3) _).trans hb4).mono B3.out.size))
                  clear hb4
                  have c0 := Hbd.out p (by omega)
                  obtain ⟨Q, hQ⟩ : ∃ Q, lessP ⟨4, i, j, kk, part, map⟩ p = Q := ⟨_, rfl⟩
                  rw [hQ] at c0
                  rw [hQ]
                  have HQ := Lib.hid hQ
                  clear hQ
                  have wa : IntKind.i64.wrap (Q + (j - i)) = Q + (j - i) := IntWalk.i64_in _ (by have := g5 (by omega); omega)
                  by_cases cD : (kk - (j - i)) < Q
                  · have HD := Lib.hid cD
                    go_wp2_with fail
                    go_ret2
                    exact ⟨by rw [PC.out, PV.out, show placeP ⟨4, i, j, kk, part, map⟩ p = Q + (j - i) from by simp only [placeP]; rw [if_neg (by decide), if_neg (by decide), if_neg (by decide), if_pos trivial, if_neg (fun h => of_decide_eq_false a1 h.1), HT.out, HQ.out, if_pos HD.out]]; rfl, B4.out⟩
                  · have d1 : decide ((kk - (j - i)) < Q) = false := by simp; omega
                    have HD := Lib.hid cD
                    go_wp2_with fail
                    go_ret2
                    exact ⟨by rw [PC.out, PV.out, show placeP ⟨4, i, j, kk, part, map⟩ p = Q from by simp only [placeP]; rw [if_neg (by decide), if_neg (by decide), if_neg (by decide), if_pos trivial, if_neg (fun h => of_decide_eq_false a1 h.1), HT.out, HQ.out, if_neg (of_decide_eq_false d1)]]; rfl, B4.out⟩
            · clear ho
              by_cases cA : i < p
              · have a1 : decide (i < p) = true := by simp [cA]
                have HA := Lib.hid cA
                by_cases cB : p < j
                · have b1 : decide (p < j) = true := by simp [cB]
                  have HB := Lib.hid cB
                  have wa : IntKind.i64.wrap (i + j) = i + j := IntWalk.i64_in _ (by omega)
                  have wb : IntKind.i64.wrap (i + j - p) = i + j - p := IntWalk.i64_in _ (by omega)
                  clear cA cB
                  go_wp2_with fail
                  go_quiet (fail)
                  go_wp2_with fail
                  go_ret2
                  exact ⟨by rw [PC.out, PV.out]; simp [placeP, HA.out, HB.out], B3.out.trans ((below_drewN (Below.refl _ _) _).mono B3.out.size)⟩
                · have b1 : decide (p < j) = false := by simp; omega
                  have HB := Lib.hid cB
                  clear cA cB
                  go_wp2_with fail
                  go_quiet (fail)
                  go_wp2_with fail
                  go_ret2
                  exact ⟨by rw [PC.out, PV.out]; simp [placeP]; intro h1 h2; exact absurd h2 (of_decide_eq_false b1), B3.out.trans ((below_drewN (Below.refl _ _) _).mono B3.out.size)⟩
              · have a1 : decide (i < p) = false := by simp; omega
                have HA := Lib.hid cA
                clear cA
                go_wp2_with fail
                go_quiet (fail)
                go_wp2_with fail
                go_ret2
                exact ⟨by rw [PC.out, PV.out]; simp [placeP]; intro h1 h2; exact absurd h1 (of_decide_eq_false a1), B3.out.trans ((below_drewN (Below.refl _ _) _).mono B3.out.size)⟩
            · have hout : out = -(j - i) + (j - i) * kk := by simp [editLen] at ho; omega
              have hL6 : n - (j - i) + (j - i) * kk ≤ 1000000000000000 := by simpa [editLen] using C4.out
              have hF6 : j ≤ n := by simpa [editFits] using C3.out
              have hij := g5 (by omega)
              have hm0 : 0 ≤ (j - i) * kk := Int.mul_nonneg (by omega) g4.1
              have hob : -1000000000000000 ≤ out ∧ out ≤ 2000000000000000 := by omega
              have Hout := Lib.hid hout
              clear ho hout hL6
              by_cases cA : i < p
              · have a1 : decide (i < p) = true := by simp [cA]
                have HA := Lib.hid cA
                by_cases cB : p < j
                · have b1 : decide (p < j) = true := by simp [cB]
                  have HB := Lib.hid cB
                  have e1 : decide (j ≤ p) = false := by simp; omega
                  clear hm0
                  by_cases cE : kk = 0
                  · have e2 : (kk == 0) = true := by simp [cE]
                    have HE1 := Lib.hid cE
                    clear cE cA cB
                    go_wp2_with fail
                    go_quiet (fail)
                    go_wp2_with fail
                    go_ret2
                    exact ⟨by rw [PC.out, PV.out, show placeP ⟨6, i, j, kk, part, map⟩ p = i from by simp only [placeP]; rw [if_neg (by decide), if_neg (by decide), if_neg (by decide), if_neg (by decide), if_neg (by decide), if_pos trivial, if_neg (of_decide_eq_false e1), if_pos ⟨⟨HA.out, HB.out⟩, HE1.out⟩]]; rfl, B3.out.trans ((below_drewN (Below.refl _ _) _).mono B3.out.size)⟩
                  · have e2 : (kk == 0) = false := by simp [cE]
                    have HE1 := Lib.hid cE
                    clear cE cA cB
                    go_wp2_with fail
                    go_quiet (fail)
                    go_wp2_with fail
                    go_ret2
                    exact ⟨by rw [PC.out, PV.out, show placeP ⟨6, i, j, kk, part, map⟩ p = p from by simp only [placeP]; rw [if_neg (by decide), if_neg (by decide), if_neg (by decide), if_neg (by decide), if_neg (by decide), if_pos trivial, if_neg (of_decide_eq_false e1), if_neg (fun h => HE1.out h.2)]]; rfl, B3.out.trans ((below_drewN (Below.refl _ _) _).mono B3.out.size)⟩
                · have b1 : decide (p < j) = false := by simp; omega
                  have HB := Lib.hid cB
                  have e1' : j ≤ p := by omega
                  have HE1 := Lib.hid e1'
                  have wa : IntKind.i64.wrap (p + out) = p + out := IntWalk.i64_in _ (by omega)
                  clear cA cB hm0
                  go_wp2_with fail
                  go_quiet (fail)
                  go_wp2_with fail
                  go_ret2
                  exact ⟨by rw [PC.out, PV.out]; simp [placeP, HE1.out, Hout.out]; omega, B3.out.trans ((below_drewN (Below.refl _ _) _).mono B3.out.size)⟩
              · have a1 : decide (i < p) = false := by simp; omega
                have HA := Lib.hid cA
                by_cases cE : j ≤ p
                · have HE1 := Lib.hid cE
                  have wa : IntKind.i64.wrap (p + out) = p + out := IntWalk.i64_in _ (by omega)
                  clear cA hm0
                  go_wp2_with fail
                  go_quiet (fail)
                  go_wp2_with fail
                  go_ret2
                  exact ⟨by rw [PC.out, PV.out]; simp [placeP, HE1.out, Hout.out]; omega, B3.out.trans ((below_drewN (Below.refl _ _) _).mono B3.out.size)⟩
                · have e1 : decide (j ≤ p) = false := by simp; omega
                  clear cA cE hm0
                  go_wp2_with fail
                  go_quiet (fail)
                  go_wp2_with fail
                  go_ret2
                  exact ⟨by rw [PC.out, PV.out, show placeP ⟨6, i, j, kk, part, map⟩ p = p from by simp only [placeP]; rw [if_neg (by decide), if_neg (by decide), if_neg (by decide), if_neg (by decide), if_neg (by decide), if_pos trivial, if_neg (of_decide_eq_false e1), if_neg (fun h => of_decide_eq_false a1 h.1.1)]]; rfl, B3.out.trans ((below_drewN (Below.refl _ _) _).mono B3.out.size)⟩
            · clear ho
              by_cases cA : i < p
              · have a1 : decide (i < p) = true := by simp [cA]
                have HA := Lib.hid cA
                by_cases cB : p < j
                · have b1 : decide (p < j) = true := by simp [cB]
                  have HB := Lib.hid cB
                  clear cA cB
                  go_wp2_with fail
                  go_quiet (fail)
                  go_wp2_with fail
                  go_ret2
                  exact ⟨by rw [PC.out, PV.out]; simp [placeP], B3.out.trans ((below_drewN (Below.refl _ _) _).mono B3.out.size)⟩
                · have b1 : decide (p < j) = false := by simp; omega
                  have HB := Lib.hid cB
                  clear cA cB
                  go_wp2_with fail
                  go_quiet (fail)
                  go_wp2_with fail
                  go_ret2
                  exact ⟨by rw [PC.out, PV.out]; simp [placeP], B3.out.trans ((below_drewN (Below.refl _ _) _).mono B3.out.size)⟩
              · have a1 : decide (i < p) = false := by simp; omega
                have HA := Lib.hid cA
                clear cA
                go_wp2_with fail
                go_quiet (fail)
                go_wp2_with fail
                go_ret2
                exact ⟨by rw [PC.out, PV.out]; simp [placeP], B3.out.trans ((below_drewN (Below.refl _ _) _).mono B3.out.size)⟩
          · have g4 : decide (editLen e n ≤ 1000000000000000) = false := by simp; omega
            rw [g4]
            obtain ⟨pc, pv⟩ := paC_3 (p := p) HE.out Hall.out c4
            have PC := Lib.hid pc
            have PV := Lib.hid pv
            clear pc pv c4 hout g4
            go_wp2_with fail
            go_ret2
            exact ⟨by rw [PC.out, PV.out]; rfl, B3.out⟩
        · have c3' : editFits e n = false := by simpa using c3
          have g3 : (!editFits e n) = true := by simp [c3']
          obtain ⟨pc, pv⟩ := paC_2 (n := n) (p := p) HE.out (by rw [C1.out, C2.out, c3']; rfl)
          have PC := Lib.hid pc
          have PV := Lib.hid pv
          clear pc pv c3 c3'
          go_wp2_with fail
          go_ret2
          exact ⟨by rw [PC.out, PV.out]; rfl, B2.out⟩
      · have c2' : inR p 0 n = false := by simpa using c2
        obtain ⟨pc, pv⟩ := paC_2 (n := n) (p := p) HE.out (by rw [C1.out, c2']; rfl)
        have PC := Lib.hid pc
        have PV := Lib.hid pv
        have C2 := Lib.hid c2'
        clear pc pv c2 c2'
        go_wp2_with fail
        refine (within_no _ _ _ _ C2.out).mono ?_
        rintro r w' ⟨rfl, rfl⟩
        go_wp2_with fail
        go_ret2
        exact ⟨by rw [PC.out, PV.out]; rfl, B1.out⟩
    · have c1' : inR n 0 1000000000000000 = false := by simpa using c1
      obtain ⟨pc, pv⟩ := paC_2 (n := n) (p := p) HE.out (by rw [c1']; rfl)
      have PC := Lib.hid pc
      have PV := Lib.hid pv
      have C1 := Lib.hid c1'
      clear pc pv c1 c1'
      go_wp2_with fail
      refine (within_no _ _ _ _ C1.out).mono ?_
      rintro r w' ⟨rfl, rfl⟩
      go_wp2_with fail
      go_ret2
      exact ⟨by rw [PC.out, PV.out]; rfl, B1.out⟩
  · have he' : editOk e = false := by simpa using he
    have g0 : (!editOk e) = true := by simp [he']
    obtain ⟨pc, pv⟩ := paC_1 (n := n) (p := p) he'
    have PC := Lib.hid pc
    have PV := Lib.hid pv
    clear pc pv he he'
    go_wp2_with fail
    go_ret2
    exact ⟨by rw [PC.out, PV.out]; rfl, B1.out⟩
end Go.Proofs.Ythidgjdjijjkoaa
