import Derived.Test.YthidgjdjijjkoaaEdit4
namespace Go.Proofs.Ythidgjdjijjkoaa
open Go.RowKit

set_option maxRecDepth 100000 in
set_option maxHeartbeats 4000000 in
theorem l07Place_any (b : Nat) (vR : Value) (e : GEdit) (n p : Int) (w : World) (h : EditAt w w.heap.size b e vR) (he : editOk e = true) (hsm : SmallL e.part) (hn : e.part.length ≤ 1099511627776) (hp : 0 ≤ p ∧ p ≤ n) (hn1 : n ≤ 1000000000000000) (hf : editFits e n = true) (hl : editLen e n ≤ 1000000000000000) :
    Calls Try.prog 103 #[.pointer (some ⟨b, 0, none⟩), .int .i64 p] w fun r w' => r = .returned (.int .i64 (placeP e p)) ∧ Below w.heap.size w w' := by
  obtain ⟨g1, g2, g3, g4, g5, g6, g7⟩ := editOk_get he
  clear he
  have HH := Lib.hid h
  have hless : ∀ q, 0 ≤ q ∧ q ≤ 1000000000000000 → ∀ W, EditAt W W.heap.size b e vR → Calls Try.prog 136 #[.pointer (some ⟨b, 0, none⟩), .int .i64 q] W fun r w' => r = .returned (.int .i64 (lessP e q)) ∧ Below W.heap.size W w' :=
    fun q hq W hW => l07Less_any b vR e q W hW hq g2 g3
  have HLs := Lib.hid hless
  clear hless
  have hbd : ∀ q, 0 ≤ q ∧ q ≤ 1000000000000000 → -1000000000000000 ≤ lessP e q ∧ lessP e q ≤ 2000000000000000 := by
    intro q hq; unfold lessP; split
    · omega
    · split <;> omega
  obtain ⟨k, i, j, kk, part, map⟩ := e
  obtain ⟨⟨x0, x1, x2, x3, x4, x5⟩, hlt, hR⟩ := h
  have HR := Lib.hid hR
  simp only at g1 g2 g3 g4 g5 g6 g7 hn hsm x0 x1 x2 x3 x4 x5
  have hlb := gramLen_bounds part
  obtain ⟨_, ls, hll⟩ := gram_lens g7
  have Hl := Lib.hid hll
  have hgl := gramLen_of hll
  have wji : IntKind.i64.wrap (j - i) = j - i := IntWalk.i64_in _ (by omega)
  have Hbd := Lib.hid hbd
  have HF := Lib.hid hf
  have HL := Lib.hid hl
  clear hll g7 hf hR hl hbd
  have go1 : ∀ (ins : Bool), (decide (i < p) && decide (p < j)) = ins → True := fun _ _ => trivial
  clear go1
  rcases kind7 g1 with rfl | rfl | rfl | rfl | rfl | rfl | rfl
  · -- insert
    have hj0 : j = 0 := g6 rfl
    subst hj0
    have wng : IntKind.i64.wrap (-i) = -i := IntWalk.i64_in _ (by omega)
    have wn : IntKind.i64.wrap (p + lastI ls) = p + lastI ls := IntWalk.i64_in _ (by omega)
    have HG := Lib.hid hgl
    clear hgl
    by_cases c : i < p
    · have c1 : decide (i < p) = true := by simp [c]
      have c2 : decide (p < 0) = false := by simp; omega
      go_enter Try.func103, Try.ntmps103
      go_wp2_with fail
      go_quiet (fail)
      go_wp2_with fail
      refine (l02Length_any b 4 _ part ls _ Hl.out (by simpa using x4) (by simpa using hlt) (HR.out.up (below_drewN (Below.refl _ _) _)) hsm hn).mono ?_
      rintro r w1 ⟨rfl, hb1⟩
      go_wp2_with fail
      go_ret
      exact ⟨ret_int (by simp [placeP, HG.out, c]), (below_drewN (Below.refl _ _) _).trans hb1⟩
    · have c1 : decide (i < p) = false := by simp; omega
      go_enter Try.func103, Try.ntmps103
      go_wp2_with fail
      go_quiet (fail)
      go_wp2_with fail
      go_ret
      exact ⟨ret_int (by simp [placeP, of_decide_eq_false c1]), (by repeat (first | exact Below.refl _ _ | (refine Below.alloc ?_ (by first | omega | (simp; done) | (simp; omega)) _) | refine below_drewN ?_ _ | refine Below.drew ?_))⟩
  · -- kind 2
    by_cases cA : i < p
    · have a1 : decide (i < p) = true := by simp [cA]
      have HA := Lib.hid cA
      by_cases cB : p < j
      · have b1 : decide (p < j) = true := by simp [cB]
        have HB := Lib.hid cB
        clear cA cB
        go_enter Try.func103, Try.ntmps103
        go_wp2_with fail
        go_quiet (fail)
        go_wp2_with fail
        refine (HLs.out p (by omega) _ (HH.out.up (below_drewN (Below.refl _ _) _))).mono ?_
        rintro r w1 ⟨rfl, hb1⟩
        go_wp2_with fail
        go_ret
        exact ⟨ret_int (by simp [placeP]), (below_drewN (Below.refl _ _) _).trans hb1⟩
      · have b1 : decide (p < j) = false := by simp; omega
        have HB := Lib.hid cB
        clear cA cB
        go_enter Try.func103, Try.ntmps103
        go_wp2_with fail
        go_quiet (fail)
        go_wp2_with fail
        refine (HLs.out p (by omega) _ (HH.out.up (below_drewN (Below.refl _ _) _))).mono ?_
        rintro r w1 ⟨rfl, hb1⟩
        go_wp2_with fail
        go_ret
        exact ⟨ret_int (by simp [placeP]), (below_drewN (Below.refl _ _) _).trans hb1⟩
    · have a1 : decide (i < p) = false := by simp; omega
      have HA := Lib.hid cA
      clear cA
      go_enter Try.func103, Try.ntmps103
      go_wp2_with fail
      go_quiet (fail)
      go_wp2_with fail
      refine (HLs.out p (by omega) _ (HH.out.up (below_drewN (Below.refl _ _) _))).mono ?_
      rintro r w1 ⟨rfl, hb1⟩
      go_wp2_with fail
      go_ret
      exact ⟨ret_int (by simp [placeP]), (below_drewN (Below.refl _ _) _).trans hb1⟩
  · -- kind 3
    have wc3 : IntKind.i64.wrap (p + (j - i)) = p + (j - i) := IntWalk.i64_in _ (by omega)
    by_cases cA : i < p
    · have a1 : decide (i < p) = true := by simp [cA]
      have HA := Lib.hid cA
      by_cases cB : p < j
      · have b1 : decide (p < j) = true := by simp [cB]
        have HB := Lib.hid cB
        clear cA cB
        by_cases cC : kk < p
        · have HC := Lib.hid cC
          go_enter Try.func103, Try.ntmps103
          go_wp2_with fail
          go_quiet (fail)
          go_wp2_with fail
          go_ret
          exact ⟨ret_int (by simp [placeP, HC.out]), (by repeat (first | exact Below.refl _ _ | (refine Below.alloc ?_ (by first | omega | (simp; done) | (simp; omega)) _) | refine below_drewN ?_ _ | refine Below.drew ?_))⟩
        · have HC := Lib.hid cC
          have d1 : decide (kk < p) = false := by simp; omega
          go_enter Try.func103, Try.ntmps103
          go_wp2_with fail
          go_quiet (fail)
          go_wp2_with fail
          go_ret
          exact ⟨ret_int (by simp [placeP, of_decide_eq_false d1]), (by repeat (first | exact Below.refl _ _ | (refine Below.alloc ?_ (by first | omega | (simp; done) | (simp; omega)) _) | refine below_drewN ?_ _ | refine Below.drew ?_))⟩
      · have b1 : decide (p < j) = false := by simp; omega
        have HB := Lib.hid cB
        clear cA cB
        by_cases cC : kk < p
        · have HC := Lib.hid cC
          go_enter Try.func103, Try.ntmps103
          go_wp2_with fail
          go_quiet (fail)
          go_wp2_with fail
          go_ret
          exact ⟨ret_int (by simp [placeP, HC.out]), (by repeat (first | exact Below.refl _ _ | (refine Below.alloc ?_ (by first | omega | (simp; done) | (simp; omega)) _) | refine below_drewN ?_ _ | refine Below.drew ?_))⟩
        · have HC := Lib.hid cC
          have d1 : decide (kk < p) = false := by simp; omega
          go_enter Try.func103, Try.ntmps103
          go_wp2_with fail
          go_quiet (fail)
          go_wp2_with fail
          go_ret
          exact ⟨ret_int (by simp [placeP, of_decide_eq_false d1]), (by repeat (first | exact Below.refl _ _ | (refine Below.alloc ?_ (by first | omega | (simp; done) | (simp; omega)) _) | refine below_drewN ?_ _ | refine Below.drew ?_))⟩
    · have a1 : decide (i < p) = false := by simp; omega
      have HA := Lib.hid cA
      clear cA
      by_cases cC : kk < p
      · have HC := Lib.hid cC
        go_enter Try.func103, Try.ntmps103
        go_wp2_with fail
        go_quiet (fail)
        go_wp2_with fail
        go_ret
        exact ⟨ret_int (by simp [placeP, HC.out]), (by repeat (first | exact Below.refl _ _ | (refine Below.alloc ?_ (by first | omega | (simp; done) | (simp; omega)) _) | refine below_drewN ?_ _ | refine Below.drew ?_))⟩
      · have HC := Lib.hid cC
        have d1 : decide (kk < p) = false := by simp; omega
        go_enter Try.func103, Try.ntmps103
        go_wp2_with fail
        go_quiet (fail)
        go_wp2_with fail
        go_ret
        exact ⟨ret_int (by simp [placeP, of_decide_eq_false d1]), (by repeat (first | exact Below.refl _ _ | (refine Below.alloc ?_ (by first | omega | (simp; done) | (simp; omega)) _) | refine below_drewN ?_ _ | refine Below.drew ?_))⟩
  · -- kind 4
    by_cases cA : i < p
    · have a1 : decide (i < p) = true := by simp [cA]
      have HA := Lib.hid cA
      by_cases cB : p < j
      · have b1 : decide (p < j) = true := by simp [cB]
        have HB := Lib.hid cB
        clear cA cB
        have b0 := Hbd.out kk (by omega)
        go_enter Try.func103, Try.ntmps103
        go_wp2_with fail
        go_quiet (fail)
        go_wp2_with fail
        refine (HLs.out kk (by omega) _ (HH.out.up (below_drewN (Below.refl _ _) _))).mono ?_
        rintro r w1 ⟨rfl, hb1⟩
        have x1' := (hb1.cell (p := ⟨b, 1, none⟩) hlt).trans (show (w.drewN _).cell? ⟨b, 1, none⟩ = _ from x1)
        have HB1 := Lib.hid ((below_drewN (Below.refl _ _) _).trans hb1)
        have HH1 := Lib.hid ((HH.out.up (below_drewN (Below.refl _ _) _)).up hb1)
        clear hb1 x0 x1 x2 x3 x4 x5
        obtain ⟨T, hT⟩ : ∃ T, lessP ⟨4, i, j, kk, part, map⟩ kk = T := ⟨_, rfl⟩
        rw [hT] at b0
        rw [hT]
        have wa : IntKind.i64.wrap (T + p) = T + p := IntWalk.i64_in _ (by omega)
        have wb : IntKind.i64.wrap (T + p - i) = T + p - i := IntWalk.i64_in _ (by omega)
        have HT := Lib.hid hT
        clear hT
        go_wp2_with fail
        go_ret
        exact ⟨ret_int (by simp [placeP, HA.out, HB.out, HT.out]), HB1.out⟩
      · have b1 : decide (p < j) = false := by simp; omega
        have HB := Lib.hid cB
        clear cA cB
        have b0 := Hbd.out kk (by omega)
        go_enter Try.func103, Try.ntmps103
        go_wp2_with fail
        go_quiet (fail)
        go_wp2_with fail
        refine (HLs.out kk (by omega) _ (HH.out.up (below_drewN (Below.refl _ _) _))).mono ?_
        rintro r w1 ⟨rfl, hb1⟩
        have x1' := (hb1.cell (p := ⟨b, 1, none⟩) hlt).trans (show (w.drewN _).cell? ⟨b, 1, none⟩ = _ from x1)
        have HB1 := Lib.hid ((below_drewN (Below.refl _ _) _).trans hb1)
        have HH1 := Lib.hid ((HH.out.up (below_drewN (Below.refl _ _) _)).up hb1)
        clear hb1 x0 x1 x2 x3 x4 x5
        obtain ⟨T, hT⟩ : ∃ T, lessP ⟨4, i, j, kk, part, map⟩ kk = T := ⟨_, rfl⟩
        rw [hT] at b0
        rw [hT]
        have HT := Lib.hid hT
        clear hT
        have c0 := Hbd.out p (by omega)
        go_wp2_with fail
        refine (HLs.out p (by omega) _ HH1.out).mono ?_
        rintro r w2 ⟨rfl, hb2⟩
        have HB2 := Lib.hid (HB1.out.trans (hb2.mono HB1.out.size))
        clear hb2
        obtain ⟨Q, hQ⟩ : ∃ Q, lessP ⟨4, i, j, kk, part, map⟩ p = Q := ⟨_, rfl⟩
        rw [hQ] at c0
        rw [hQ]
        have HQ := Lib.hid hQ
        clear hQ
        have wa : IntKind.i64.wrap (Q + (j - i)) = Q + (j - i) := IntWalk.i64_in _ (by omega)
        by_cases cD : T < Q
        · have HD := Lib.hid cD
          go_wp2_with fail
          go_ret
          exact ⟨ret_int (by simp only [placeP]; rw [if_neg (by decide), if_neg (by decide), if_neg (by decide), if_pos trivial, if_neg (fun h => of_decide_eq_false b1 h.2), HT.out, HQ.out, if_pos HD.out]), HB2.out⟩
        · have HD := Lib.hid cD
          have d1 : decide (T < Q) = false := by simp; omega
          go_wp2_with fail
          go_ret
          exact ⟨ret_int (by simp only [placeP]; rw [if_neg (by decide), if_neg (by decide), if_neg (by decide), if_pos trivial, if_neg (fun h => of_decide_eq_false b1 h.2), HT.out, HQ.out, if_neg (of_decide_eq_false d1)]), HB2.out⟩
    · have a1 : decide (i < p) = false := by simp; omega
      have HA := Lib.hid cA
      clear cA
      have b0 := Hbd.out kk (by omega)
      go_enter Try.func103, Try.ntmps103
      go_wp2_with fail
      go_quiet (fail)
      go_wp2_with fail
      refine (HLs.out kk (by omega) _ (HH.out.up (below_drewN (Below.refl _ _) _))).mono ?_
      rintro r w1 ⟨rfl, hb1⟩
      have x1' := (hb1.cell (p := ⟨b, 1, none⟩) hlt).trans (show (w.drewN _).cell? ⟨b, 1, none⟩ = _ from x1)
      have HB1 := Lib.hid ((below_drewN (Below.refl _ _) _).trans hb1)
      have HH1 := Lib.hid ((HH.out.up (below_drewN (Below.refl _ _) _)).up hb1)
      clear hb1 x0 x1 x2 x3 x4 x5
      obtain ⟨T, hT⟩ : ∃ T, lessP ⟨4, i, j, kk, part, map⟩ kk = T := ⟨_, rfl⟩
      rw [hT] at b0
      rw [hT]
      have HT := Lib.hid hT
      clear hT
      have c0 := Hbd.out p (by omega)
      go_wp2_with fail
      refine (HLs.out p (by omega) _ HH1.out).mono ?_
      rintro r w2 ⟨rfl, hb2⟩
      have HB2 := Lib.hid (HB1.out.trans (hb2.mono HB1.out.size))
      clear hb2
      obtain ⟨Q, hQ⟩ : ∃ Q, lessP ⟨4, i, j, kk, part, map⟩ p = Q := ⟨_, rfl⟩
      rw [hQ] at c0
      rw [hQ]
      have HQ := Lib.hid hQ
      clear hQ
      have wa : IntKind.i64.wrap (Q + (j - i)) = Q + (j - i) := IntWalk.i64_in _ (by omega)
      by_cases cD : T < Q
      · have HD := Lib.hid cD
        go_wp2_with fail
        go_ret
        exact ⟨ret_int (by simp only [placeP]; rw [if_neg (by decide), if_neg (by decide), if_neg (by decide), if_pos trivial, if_neg (fun h => of_decide_eq_false a1 h.1), HT.out, HQ.out, if_pos HD.out]), HB2.out⟩
      · have HD := Lib.hid cD
        have d1 : decide (T < Q) = false := by simp; omega
        go_wp2_with fail
        go_ret
        exact ⟨ret_int (by simp only [placeP]; rw [if_neg (by decide), if_neg (by decide), if_neg (by decide), if_pos trivial, if_neg (fun h => of_decide_eq_false a1 h.1), HT.out, HQ.out, if_neg (of_decide_eq_false d1)]), HB2.out⟩
  · -- kind 5
    by_cases cA : i < p
    · have a1 : decide (i < p) = true := by simp [cA]
      have HA := Lib.hid cA
      by_cases cB : p < j
      · have b1 : decide (p < j) = true := by simp [cB]
        have HB := Lib.hid cB
        clear cA cB
        have wa : IntKind.i64.wrap (i + j) = i + j := IntWalk.i64_in _ (by omega)
        have wb : IntKind.i64.wrap (i + j - p) = i + j - p := IntWalk.i64_in _ (by omega)
        go_enter Try.func103, Try.ntmps103
        go_wp2_with fail
        go_quiet (fail)
        go_wp2_with fail
        go_quiet (fail)
        go_wp2_with fail
        go_ret
        exact ⟨ret_int (by simp [placeP, HA.out, HB.out]), (by repeat (first | exact Below.refl _ _ | (refine Below.alloc ?_ (by first | omega | (simp; done) | (simp; omega)) _) | refine below_drewN ?_ _ | refine Below.drew ?_))⟩
      · have b1 : decide (p < j) = false := by simp; omega
        have HB := Lib.hid cB
        clear cA cB
        go_enter Try.func103, Try.ntmps103
        go_wp2_with fail
        go_quiet (fail)
        go_wp2_with fail
        go_ret
        exact ⟨ret_int (by rw [placeP]; simp; intro h1 h2; exact absurd h2 (of_decide_eq_false b1)), (by repeat (first | exact Below.refl _ _ | (refine Below.alloc ?_ (by first | omega | (simp; done) | (simp; omega)) _) | refine below_drewN ?_ _ | refine Below.drew ?_))⟩
    · have a1 : decide (i < p) = false := by simp; omega
      have HA := Lib.hid cA
      clear cA
      go_enter Try.func103, Try.ntmps103
      go_wp2_with fail
      go_quiet (fail)
      go_wp2_with fail
      go_ret
      exact ⟨ret_int (by rw [placeP]; simp; intro h1 h2; exact absurd h1 (of_decide_eq_false a1)), (by repeat (first | exact Below.refl _ _ | (refine Below.alloc ?_ (by first | omega | (simp; done) | (simp; omega)) _) | refine below_drewN ?_ _ | refine Below.drew ?_))⟩
  · -- kind 6
    by_cases cA : i < p
    · have a1 : decide (i < p) = true := by simp [cA]
      have HA := Lib.hid cA
      by_cases cB : p < j
      · have b1 : decide (p < j) = true := by simp [cB]
        have HB := Lib.hid cB
        clear cA cB
        have e1 : decide (j ≤ p) = false := by have := HB.out; simp; omega
        by_cases cE : kk = 0
        · have e2 : (kk == 0) = true := by simp [cE]
          have HE := Lib.hid cE
          clear cE
          go_enter Try.func103, Try.ntmps103
          go_wp2_with fail
          go_quiet (fail)
          go_wp2_with fail
          go_ret
          exact ⟨ret_int (by simp only [placeP]; rw [if_neg (by decide), if_neg (by decide), if_neg (by decide), if_neg (by decide), if_neg (by decide), if_pos trivial, if_neg (of_decide_eq_false e1), if_pos ⟨⟨HA.out, HB.out⟩, HE.out⟩]), (by repeat (first | exact Below.refl _ _ | (refine Below.alloc ?_ (by first | omega | (simp; done) | (simp; omega)) _) | refine below_drewN ?_ _ | refine Below.drew ?_))⟩
        · have e2 : (kk == 0) = false := by simp [cE]
          have HE := Lib.hid cE
          clear cE
          go_enter Try.func103, Try.ntmps103
          go_wp2_with fail
          go_quiet (fail)
          go_wp2_with fail
          go_ret
          exact ⟨ret_int (by simp only [placeP]; rw [if_neg (by decide), if_neg (by decide), if_neg (by decide), if_neg (by decide), if_neg (by decide), if_pos trivial, if_neg (of_decide_eq_false e1), if_neg (fun h => HE.out h.2)]), (by repeat (first | exact Below.refl _ _ | (refine Below.alloc ?_ (by first | omega | (simp; done) | (simp; omega)) _) | refine below_drewN ?_ _ | refine Below.drew ?_))⟩
      · have b1 : decide (p < j) = false := by simp; omega
        have HB := Lib.hid cB
        clear cA cB
        have hL6 : n - (j - i) + (j - i) * kk ≤ 1000000000000000 := by simpa [editLen] using HL.out
        have hF6 : j ≤ n := by simpa [editFits] using HF.out
        have hm0 : 0 ≤ (j - i) * kk := Int.mul_nonneg (by have := g5 (by omega); omega) g4.1
        have wa : IntKind.i64.wrap (p - (j - i)) = p - (j - i) := IntWalk.i64_in _ (by omega)
        have wb : IntKind.i64.wrap ((j - i) * kk) = (j - i) * kk := IntWalk.i64_in _ (by omega)
        have wc : IntKind.i64.wrap (p - (j - i) + (j - i) * kk) = p - (j - i) + (j - i) * kk := IntWalk.i64_in _ (by omega)
        have e1 : decide (j ≤ p) = true := by have := HB.out; simp; omega
        have e1' : j ≤ p := by have := HB.out; omega
        have HE := Lib.hid e1'
        clear hL6
        go_enter Try.func103, Try.ntmps103
        go_wp2_with fail
        go_quiet (fail)
        go_wp2_with fail
        go_ret
        exact ⟨ret_int (by simp [placeP, HE.out]), (by repeat (first | exact Below.refl _ _ | (refine Below.alloc ?_ (by first | omega | (simp; done) | (simp; omega)) _) | refine below_drewN ?_ _ | refine Below.drew ?_))⟩
    · have a1 : decide (i < p) = false := by simp; omega
      have HA := Lib.hid cA
      clear cA
      have hij := g5 (by omega)
      by_cases cE : j ≤ p
      · have hL6 : n - (j - i) + (j - i) * kk ≤ 1000000000000000 := by simpa [editLen] using HL.out
        have hF6 : j ≤ n := by simpa [editFits] using HF.out
        have hm0 : 0 ≤ (j - i) * kk := Int.mul_nonneg (by omega) g4.1
        have wa : IntKind.i64.wrap (p - (j - i)) = p - (j - i) := IntWalk.i64_in _ (by omega)
        have wb : IntKind.i64.wrap ((j - i) * kk) = (j - i) * kk := IntWalk.i64_in _ (by omega)
        have wc : IntKind.i64.wrap (p - (j - i) + (j - i) * kk) = p - (j - i) + (j - i) * kk := IntWalk.i64_in _ (by omega)
        have HE := Lib.hid cE
        clear hL6
        go_enter Try.func103, Try.ntmps103
        go_wp2_with fail
        go_quiet (fail)
        go_wp2_with fail
        go_ret
        exact ⟨ret_int (by simp [placeP, HE.out]), (by repeat (first | exact Below.refl _ _ | (refine Below.alloc ?_ (by first | omega | (simp; done) | (simp; omega)) _) | refine below_drewN ?_ _ | refine Below.drew ?_))⟩
      · have e1 : decide (j ≤ p) = false := by simp; omega
        go_enter Try.func103, Try.ntmps103
        go_wp2_with fail
        go_quiet (fail)
        go_wp2_with fail
        go_ret
        exact ⟨ret_int (by simp only [placeP]; rw [if_neg (by decide), if_neg (by decide), if_neg (by decide), if_neg (by decide), if_neg (by decide), if_pos trivial, if_neg (of_decide_eq_false e1), if_neg (fun h => of_decide_eq_false a1 h.1.1)]), (by repeat (first | exact Below.refl _ _ | (refine Below.alloc ?_ (by first | omega | (simp; done) | (simp; omega)) _) | refine below_drewN ?_ _ | refine Below.drew ?_))⟩
  · -- kind 7
    by_cases cA : i < p
    · have a1 : decide (i < p) = true := by simp [cA]
      have HA := Lib.hid cA
      by_cases cB : p < j
      · have b1 : decide (p < j) = true := by simp [cB]
        have HB := Lib.hid cB
        clear cA cB
        go_enter Try.func103, Try.ntmps103
        go_wp2_with fail
        go_quiet (fail)
        go_wp2_with fail
        go_ret
        exact ⟨ret_int (by simp [placeP]), (by repeat (first | exact Below.refl _ _ | (refine Below.alloc ?_ (by first | omega | (simp; done) | (simp; omega)) _) | refine below_drewN ?_ _ | refine Below.drew ?_))⟩
      · have b1 : decide (p < j) = false := by simp; omega
        have HB := Lib.hid cB
        clear cA cB
        go_enter Try.func103, Try.ntmps103
        go_wp2_with fail
        go_quiet (fail)
        go_wp2_with fail
        go_ret
        exact ⟨ret_int (by simp [placeP]), (by repeat (first | exact Below.refl _ _ | (refine Below.alloc ?_ (by first | omega | (simp; done) | (simp; omega)) _) | refine below_drewN ?_ _ | refine Below.drew ?_))⟩
    · have a1 : decide (i < p) = false := by simp; omega
      have HA := Lib.hid cA
      clear cA
      go_enter Try.func103, Try.ntmps103
      go_wp2_with fail
      go_quiet (fail)
      go_wp2_with fail
      go_ret
      exact ⟨ret_int (by simp [placeP]), (by repeat (first | exact Below.refl _ _ | (refine Below.alloc ?_ (by first | omega | (simp; done) | (simp; omega)) _) | refine below_drewN ?_ _ | refine Below.drew ?_))⟩
end Go.Proofs.Ythidgjdjijjkoaa
