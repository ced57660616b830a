import Derived.Test.YtoemoifeiigkoaaPart7
import Derived.Test.YtoemoifeiigkoaaLTurn
namespace Go.Proofs.Ytoemoifeiigkoaa
open Go.RowKit

theorem partOut_len (xs : List GRule) (i j : Int) : (partOut xs i j).length ≤ 1048696 := by
  unfold partOut
  split
  · rename_i h
    have hg : gramOk xs = true := by
      cases hi : gramOk xs with
      | true => rfl
      | false => rw [hi] at h; simp at h
    obtain ⟨h4, ls, hl⟩ := gram_lens hg
    have h3 := partG_len hl i j
    have e : partX xs i j = partG xs ls i j := by simp [partX, hl]
    rw [e]
    unfold limOut
    split
    · omega
    · simp
  · simp
set_option maxRecDepth 100000 in
set_option maxHeartbeats 4000000 in
theorem lawPart_any (v : Value) (xs : List GRule) (i j : Int) (w : World) (h : Sl RuleE w w.heap.size v xs) (hsm : SmallL xs) :
    Calls Try.prog 3 #[.agg #[v], .int .i64 i, .int .i64 j] w fun e w' => e = .returned (.bool true) ∧ Below w.heap.size w w' := by
  have h1 := fun o => (h.below ((Below.refl w.heap.size w).alloc (Nat.le_refl _) o)).le (B' := (w.alloc o).heap.size) (by simp)
  have H1 := Lib.hid h1
  clear h1
  have H0 := Lib.hid h
  obtain ⟨A, c, rfl, _⟩ := h
  go_enter Try.func3, Try.ntmps3
  go_wp2_with fail
  refine (szGrammar_any _ _ _ _ (H1.out _) hsm (by omega)).mono ?_
  rintro e w1 ⟨rfl, hb1⟩
  have hb1' : Below (w.heap.size + 1) (w.alloc (Obj.cells #[Value.slice A xs.length c] 24)) w1 := by simpa using hb1
  have B1 := Lib.hid (((Below.refl w.heap.size w).alloc (Nat.le_refl _) (Obj.cells #[Value.slice A xs.length c] 24)).trans (hb1'.mono (by omega)))
  have z1 : w.heap.size < w1.heap.size := by have := hb1'.size; simp at this; omega
  have a1 : w1.cell? ⟨w.heap.size, 0, none⟩ = some (.slice A xs.length c) := cell_up (by simp [go_sem]) hb1' (by omega)
  have S1 := Lib.hid ((H1.out (Obj.cells #[Value.slice A xs.length c] 24)).up hb1)
  clear hb1 hb1'
  by_cases hneg : szRs xs 1048576 < 0
  · have H := Lib.hid hneg
    rw [if_pos hneg]
    clear hneg
    go_wp2
    go_ret
    exact ⟨rfl, B1.out⟩
  · rw [if_neg hneg]
    obtain ⟨_, hlen⟩ := szRs_le xs 1048576 (by omega)
    have hn : xs.length ≤ 1048576 := by omega
    have hpos : ¬ szRs xs 1048576 < 0 := hneg
    clear hneg hlen
    go_wp2_with fail
    refine (toGrammar_any _ _ _ S1.out hn).mono ?_
    rintro e w2 ⟨v2, rfl, own2, hb2⟩
    obtain ⟨A2, c2, rfl, _⟩ := own_nil own2
    have z2 : w1.heap.size ≤ w2.heap.size := hb2.size
    have a2 := cell_up a1 hb2 z1
    have S2 := Lib.hid own2.sl
    have T2 := Lib.hid (S1.out.up hb2)
    have B2 := Lib.hid (B1.out.trans (hb2.mono (by omega)))
    clear a1 hb2 own2
    go_wp2_with fail
    refine (specPart_any _ _ i j _ S2.out (by omega) hsm).mono ?_
    rintro e w3 ⟨hb3, vW, ownW, rfl⟩
    obtain ⟨AW, cW, rfl, _⟩ := own_nil ownW
    have z3 : w2.heap.size ≤ w3.heap.size := hb3.size
    have a3 := cell_up a2 hb3 (by omega)
    have y3 : w.heap.size < w3.heap.size := by omega
    have SW := Lib.hid ownW.sl
    have T3 := Lib.hid (T2.out.up hb3)
    have B3 := Lib.hid (B2.out.trans (hb3.mono (by omega)))
    clear a2 hb3 ownW
    go_wp2_with fail
    refine (toGrammar_any _ _ _ ((T3.out.below ((Below.refl _ _).alloc (Nat.le_refl _) _)).le (by first | omega | (simp; done) | (simp; omega))) hn).mono ?_
    rintro e w4 ⟨vX, rfl, ownX, hb4⟩
    obtain ⟨AX, cX, rfl, _⟩ := own_nil ownX
    have hb4' : Below (w3.heap.size + 1) (w3.alloc (Obj.cells #[Value.slice AW (partOut xs i j).length cW] 28)) w4 := by simpa using hb4
    have z4 : w3.heap.size < w4.heap.size := by have := hb4'.size; simp at this; omega
    have y4 : w.heap.size < w4.heap.size := by omega
    have b4 : w4.cell? ⟨w3.heap.size, 0, none⟩ = some (.slice AW (partOut xs i j).length cW) := cell_up (by simp [go_sem]) hb4' (by omega)
    have a4 : w4.cell? ⟨w.heap.size, 0, none⟩ = some (.slice A xs.length c) := cell_up (by simp [go_sem, a3, y3]) hb4' (by omega)
    have SX := Lib.hid ownX.sl
    have ownX' : w4.ownsRow (w3.heap.size + 1) 171 3 (.slice AX xs.length cX) xs.length (xs.flatMap GRule.cells) := ownsRow_more ownX (by simp)
    have OX := Lib.hid ownX'
    have W4 := Lib.hid ((SW.out.below ((Below.refl _ _).alloc (Nat.le_refl _) _)).below (hb4'.mono (by omega)))
    have T4 := Lib.hid ((T3.out.below ((Below.refl _ _).alloc (Nat.le_refl _) _)).below (hb4'.mono (by omega)))
    have B4 := Lib.hid ((B3.out.alloc (by omega) _).trans (hb4'.mono (by omega)))
    clear a3 hb4 hb4' ownX ownX'
    go_wp2_with fail
    -- impl
    refine (implPart_any _ _ i j _ ((SX.out.below ((Below.refl _ _).alloc (Nat.le_refl _) _)).le (by first | omega | (simp; done) | (simp; omega))) (by omega)).mono ?_
    rintro e w5 ⟨hb5, vG, ownG, rfl⟩
    obtain ⟨AG, cG, rfl, _⟩ := own_nil ownG
    have hb5' : Below (w4.heap.size + 1) (w4.alloc (Obj.cells #[Value.slice AX xs.length cX] 28)) w5 := by simpa using hb5
    have z5 : w4.heap.size < w5.heap.size := by have := hb5'.size; simp at this; omega
    have y5 : w.heap.size < w5.heap.size := by omega
    have x5 : w3.heap.size < w5.heap.size := by omega
    have c5 : w5.cell? ⟨w4.heap.size, 0, none⟩ = some (.slice AX xs.length cX) := cell_up (by simp [go_sem]) hb5' (by omega)
    have b5 : w5.cell? ⟨w3.heap.size, 0, none⟩ = some (.slice AW (partOut xs i j).length cW) := cell_up (by simp [go_sem, b4, z4]) hb5' (by omega)
    have a5 : w5.cell? ⟨w.heap.size, 0, none⟩ = some (.slice A xs.length c) := cell_up (by simp [go_sem, a4, y4]) hb5' (by omega)
    have OG : OwnRules w5 (w4.heap.size + 1) (.slice AG (partOut xs i j).length cG) (partOut xs i j) := ownsRow_more ownG (by simp)
    have OX5 := Lib.hid (ownsRow_below (World.ownsRow.alloc OX.out (Obj.cells #[Value.slice AX xs.length cX] 28)) hb5)
    have W5 := Lib.hid ((W4.out.below ((Below.refl _ _).alloc (by omega) _)).below (hb5'.mono (by omega)))
    have T5 := Lib.hid ((T4.out.below ((Below.refl _ _).alloc (by omega) _)).below (hb5'.mono (by omega)))
    have B5 := Lib.hid ((B4.out.alloc (by omega) _).trans (hb5'.mono (by omega)))
    have OG5 := Lib.hid OG
    clear a4 b4 hb5 hb5' ownG OG
    go_wp2_with fail
    -- eq
    refine (eqGrammar_any _ _ _ _ ((OG5.out.sl.below ((Below.refl _ _).alloc (Nat.le_refl _) _)).le (by first | omega | (simp; done) | (simp; omega))) ((W5.out.below ((Below.refl _ _).alloc (by omega) _)).le (by first | omega | (simp; done) | (simp; omega)))).mono ?_
    rintro e w6 ⟨rfl, hb6⟩
    have hb6' : Below (w5.heap.size + 1) (w5.alloc (Obj.cells #[Value.slice AG (partOut xs i j).length cG] 28)) w6 := by simpa using hb6
    have z6 : w5.heap.size < w6.heap.size := by have := hb6'.size; simp at this; omega
    have y6 : w.heap.size < w6.heap.size := by omega
    have x6 : w3.heap.size < w6.heap.size := by omega
    have t6 : w4.heap.size < w6.heap.size := by omega
    have d6 : w6.cell? ⟨w5.heap.size, 0, none⟩ = some (.slice AG (partOut xs i j).length cG) := cell_up (by simp [go_sem]) hb6' (by omega)
    have c6 : w6.cell? ⟨w4.heap.size, 0, none⟩ = some (.slice AX xs.length cX) := cell_up (by simp [go_sem, c5, z5]) hb6' (by omega)
    have b6 : w6.cell? ⟨w3.heap.size, 0, none⟩ = some (.slice AW (partOut xs i j).length cW) := cell_up (by simp [go_sem, b5, x5]) hb6' (by omega)
    have a6 : w6.cell? ⟨w.heap.size, 0, none⟩ = some (.slice A xs.length c) := cell_up (by simp [go_sem, a5, y5]) hb6' (by omega)
    have OG6 := Lib.hid (OwnRules.below (OG5.out.alloc (Obj.cells #[Value.slice AG (partOut xs i j).length cG] 28)) hb6)
    have OX6 := Lib.hid (ownsRow_below (World.ownsRow.alloc OX5.out (Obj.cells #[Value.slice AG (partOut xs i j).length cG] 28)) hb6)
    have W6 := Lib.hid ((W5.out.below ((Below.refl _ _).alloc (by omega) _)).below (hb6'.mono (by omega)))
    have T6 := Lib.hid ((T5.out.below ((Below.refl _ _).alloc (by omega) _)).below (hb6'.mono (by omega)))
    have B6 := Lib.hid ((B5.out.alloc (by omega) _).trans (hb6'.mono (by omega)))
    clear a5 b5 c5 hb6 hb6'
    go_wp2_with fail
    go_region_held3 (fun w' => Below w6.heap.size w6 w' ∧ w'.cell? ⟨w4.heap.size, 0, none⟩ = some (.slice AX xs.length cX) ∧ w'.cell? ⟨w.heap.size, 0, none⟩ = some (.slice A xs.length c))
      (first | exact ⟨(Below.refl _ _).drew, c6, a6⟩ | (exact keepC (by assumption) hb7 t6 y6) | (exact keepC (by assumption) hb8 t6 y6))
      (first
        | (go_at_call 15; refine (toGrammar_any _ _ _ ((T6.out.below (Below.drew (Below.refl _ _))).le (by show w3.heap.size ≤ w6.heap.size; omega)) hn).mono ?_; rintro e w7 ⟨v7, rfl, own7, hb7⟩)
        | (go_at_call 17; refine (eqGrammar_any _ _ xs _ (Hid_slR OX6.out (Below.drew (Below.refl _ _)) hb7) own7.sl).mono ?_; rintro e w8 ⟨rfl, hb8⟩))
    have hbz : Below w6.heap.size w6 w8 := (Below.drew (Below.refl _ _)).trans (hb7.trans (hb8.mono hb7.size))
    have z8 : w6.heap.size ≤ w8.heap.size := hbz.size
    have a8 := cell_up a6 hbz y6
    have b8 := cell_up b6 hbz x6
    have c8 := cell_up c6 hbz t6
    have d8 := cell_up d6 hbz z6
    have OX8 : OwnRules w8 (w3.heap.size + 1) (.slice AX xs.length cX) xs := OwnRules.below OX6.out hbz
    have OG8 := OwnRules.below OG6.out hbz
    have W8 := W6.out.below (hbz.mono (by omega))
    have B8 := Lib.hid (B6.out.trans (hbz.mono (by omega)))
    -- what lies where
    have hGX : ∀ g, (Value.slice AG (partOut xs i j).length cG).ownBlock = some g → some g ≠ (Value.slice AX xs.length cX).ownBlock := fun g hg e => by
      have h1 := (World.ownsRow.lt OG8 g hg).1
      have h2 := (World.ownsRow.lt OX.out g e.symm).2
      omega
    have hXr := fun g hg => (World.ownsRow.lt OX8 g hg).1
    have hGr := fun g hg => World.ownsRow.lt OG5.out g hg
    have HGX := Lib.hid hGX
    have HXr := Lib.hid hXr
    have HGr := Lib.hid hGr
    have HOX := Lib.hid OX8
    have HOG := Lib.hid OG8
    have HW := Lib.hid W8
    clear a6 b6 c6 d6 hbz own7 hb7 hb8 OX8 OG8 W8 hGX hXr hGr
    go_wp2_with fail
    -- mark x0
    refine (markGrammar1 _ _ _ _ HOX.out (by omega)).mono ?_
    rintro e w9 ⟨rfl, -, hg9⟩
    have hb9 : Below (w3.heap.size + 1) w8 w9 := below_of_grown hg9 (by omega) HXr.out
    have z9 : w8.heap.size ≤ w9.heap.size := hg9.size
    have a9 := cell_up a8 hb9 (by omega)
    have b9 := cell_up b8 hb9 (by omega)
    have d9 := cell_up_grown d8 hg9 (by omega) (fun e => by have := (World.ownsRow.lt OX.out _ e.symm).2; omega)
    have OG9 := HOG.out.keep hg9 HGX.out
    have W9 := HW.out.below (hb9.mono (by omega))
    have B9 := Lib.hid (B8.out.trans (hb9.mono (by omega)))
    have HOG9 := Lib.hid OG9
    have HW9 := Lib.hid W9
    clear a8 b8 c8 d8 hg9 hb9 OG9 W9
    have e0 : (decide (((1 + 3 * xs.length : Nat) : Int) < 0)) = false := by simp; omega
    go_wp2_with fail
    refine (eqGrammar_any _ _ _ _ HOG9.out.sl (HW9.out.le (by omega))).mono ?_
    rintro e w10 ⟨rfl, hb10⟩
    have z10 : w9.heap.size ≤ w10.heap.size := hb10.size
    have a10 := cell_up a9 hb10 (by omega)
    have b10 := cell_up b9 hb10 (by omega)
    have d10 := cell_up d9 hb10 (by omega)
    have HOG10 := Lib.hid (HOG9.out.below hb10)
    have HW10 := Lib.hid (HW9.out.below (hb10.mono (by omega)))
    have B10 := Lib.hid (B9.out.trans (hb10.mono (by omega)))
    clear a9 b9 d9 hb10
    go_wp2_with fail
    -- mark g0
    have hlo : (partOut xs i j).length ≤ 1048696 := partOut_len xs i j
    refine (markGrammar1 _ _ _ _ HOG10.out (by omega)).mono ?_
    rintro e w11 ⟨rfl, own11, hg11⟩
    have hb11 : Below (w4.heap.size + 1) w10 w11 := below_of_grown hg11 (by omega) (fun g hg => (HGr.out g hg).1)
    have z11 : w10.heap.size ≤ w11.heap.size := hg11.size
    have a11 := cell_up a10 hb11 (by omega)
    have b11 := cell_up b10 hb11 (by omega)
    have d11 := cell_up_grown d10 hg11 (by omega) (fun e => by have := (HGr.out _ e.symm).2; omega)
    have HM11 := Lib.hid own11
    have HW11 := Lib.hid (HW10.out.below (hb11.mono (by omega)))
    have B11 := Lib.hid (B10.out.trans (hb11.mono (by omega)))
    clear a10 b10 d10 hg11 hb11 own11
    go_wp2_with fail
    -- held g0
    have hsl11 : Sl RuleE w11 w11.heap.size (.slice AG (partOut xs i j).length cG) (marks 1 (partOut xs i j).length) := HM11.out.sl
    have HS11 := Lib.hid hsl11
    clear hsl11
    refine (heldGrammar1 _ _ _ HS11.out (by omega)).mono ?_
    rintro e w12 ⟨rfl, hb12⟩
    have z12 : w11.heap.size ≤ w12.heap.size := hb12.size
    have a12 := cell_up a11 hb12 (by omega)
    have b12 := cell_up b11 hb12 (by omega)
    have d12 := cell_up d11 hb12 (by omega)
    have HM12 := Lib.hid (HM11.out.below hb12)
    have HW12 := Lib.hid (HW11.out.below (hb12.mono (by omega)))
    have T12 := Lib.hid ((B11.out.trans (hb12.mono (by omega))))
    clear a11 b11 d11 hb12
    go_wp2_with fail
    -- once more
    refine (toGrammar_any _ _ _ ((H0.out.below T12.out).le (by omega)) hn).mono ?_
    rintro e w13 ⟨v13, rfl, own13, hb13⟩
    have z13 : w12.heap.size ≤ w13.heap.size := hb13.size
    have a13 := cell_up a12 hb13 (by omega)
    have b13 := cell_up b12 hb13 (by omega)
    have d13 := cell_up d12 hb13 (by omega)
    have HM13 := Lib.hid (HM12.out.below hb13)
    have HW13 := Lib.hid (HW12.out.below (hb13.mono (by omega)))
    have B13 := Lib.hid (T12.out.trans (hb13.mono (by omega)))
    have S13 := Lib.hid own13.sl
    clear a12 b12 d12 hb13 own13
    obtain ⟨A13, c13, rfl, _⟩ := S13.out
    go_wp2_with fail
    refine (implPart_any _ _ i j _ S13.out (by omega)).mono ?_
    rintro e w14 ⟨hb14, vH, ownH, rfl⟩
    obtain ⟨AH, cH, rfl, _⟩ := own_nil ownH
    have z14 : w13.heap.size ≤ w14.heap.size := hb14.size
    have y14 : w.heap.size < w14.heap.size := by omega
    have x14 : w3.heap.size < w14.heap.size := by omega
    have t14 : w5.heap.size < w14.heap.size := by omega
    have b14 := cell_up b13 hb14 (by omega)
    have d14 := cell_up d13 hb14 (by omega)
    have HM14 := Lib.hid (HM13.out.below hb14)
    have HW14 := Lib.hid (HW13.out.below (hb14.mono (by omega)))
    have B14 := Lib.hid (B13.out.trans (hb14.mono (by omega)))
    have SH := Lib.hid ownH.sl
    clear a13 b13 d13 hb14 ownH
    go_wp2_with fail
    refine (eqGrammar_any _ _ _ _ ((SH.out.below ((Below.refl _ _).alloc (Nat.le_refl _) _)).le (by first | omega | (simp; done) | (simp; omega))) ((HW14.out.below ((Below.refl _ _).alloc (by omega) _)).le (by first | omega | (simp; done) | (simp; omega)))).mono ?_
    rintro e w15 ⟨rfl, hb15⟩
    have hb15' : Below (w14.heap.size + 1) (w14.alloc (Obj.cells #[Value.slice AH (partOut xs i j).length cH] 28)) w15 := by simpa using hb15
    have d15 : w15.cell? ⟨w5.heap.size, 0, none⟩ = some (.slice AG (partOut xs i j).length cG) := cell_up (by simp [go_sem, d14, t14]) hb15' (by omega)
    have HM15 := Lib.hid (OwnRules.below (HM14.out.alloc (Obj.cells #[Value.slice AH (partOut xs i j).length cH] 28)) hb15)
    have B15 := Lib.hid ((B14.out.alloc (by omega) _).trans (hb15'.mono (by omega)))
    have z15 : w14.heap.size < w15.heap.size := by have := hb15'.size; simp at this; omega
    clear b14 d14 hb15 hb15'
    go_wp2_with fail
    have hsl15 : Sl RuleE w15 w15.heap.size (.slice AG (partOut xs i j).length cG) (marks 1 (partOut xs i j).length) := HM15.out.sl
    have HS15 := Lib.hid hsl15
    clear hsl15
    refine (heldGrammar1 _ _ _ HS15.out (by omega)).mono ?_
    rintro e w16 ⟨rfl, hb16⟩
    go_wp2
    go_ret
    exact ⟨rfl, B15.out.trans (hb16.mono (by omega))⟩
end Go.Proofs.Ytoemoifeiigkoaa
