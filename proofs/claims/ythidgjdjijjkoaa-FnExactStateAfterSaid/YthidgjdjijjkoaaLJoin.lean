import Derived.Test.YthidgjdjijjkoaaJoin4
import Derived.Test.YthidgjdjijjkoaaLTurn
import Derived.Deep.CutRange
import Derived.Deep.DeepCutAuto
namespace Go.Proofs.Ythidgjdjijjkoaa
open Go.RowKit

section
variable {α : Type} {E : Enc α} {w w1 w2 : World} {o : Obj} {v : Value} {xs : List α}
theorem slUp0 (h : Sl E w w.heap.size v xs) : Sl E w.drew w.drew.heap.size v xs := SlS.dr h
theorem szS (hb : Below (w.alloc o).heap.size (w.alloc o) w1) : w.heap.size < w1.heap.size := Nat.lt_of_lt_of_le (by simp) hb.size
theorem szS0 (hb : Below (w.drew.alloc o).heap.size (w.drew.alloc o) w1) : w.heap.size < w1.heap.size := szS (w := w.drew) hb
theorem bSt {N : Nat} {w0 : World} (h : Below N w0 w) (hN : N ≤ w.heap.size) (hb : Below w.heap.size w w1) : Below N w0 w1 := h.trans (hb.mono hN)
theorem bStA {N : Nat} {w0 : World} (h : Below N w0 w) (hN : N ≤ w.heap.size) (hb : Below (w.alloc o).heap.size (w.alloc o) w1) : Below N w0 w1 := (h.alloc hN o).trans (hb.mono (by simp; omega))
theorem slSet {base b : Nat} {v u : Value} {xs : List GRule} (h : OwnRules w base v xs) (hb : b < base) : Sl RuleE (w.setCell ⟨b, 0, none⟩ u) (w.setCell ⟨b, 0, none⟩ u).heap.size v xs := OwnRules.sl (base := base) (ownsRow_setCell_below h hb _)
theorem cellNew {t : TypeId} {u : Value} (hb : Below (w.alloc (Obj.cells #[u] t)).heap.size (w.alloc (Obj.cells #[u] t)) w1) : w1.cell? ⟨w.heap.size, 0, none⟩ = some u := (hb.cell (p := ⟨w.heap.size, 0, none⟩) (by simp)).trans (by simp [go_sem])
theorem cellNew0 {t : TypeId} {u : Value} (hb : Below (w.drew.alloc (Obj.cells #[u] t)).heap.size (w.drew.alloc (Obj.cells #[u] t)) w1) : w1.cell? ⟨w.heap.size, 0, none⟩ = some u := cellNew (w := w.drew) hb
theorem cellUpA {b : Nat} {u : Value} (h : w.cell? ⟨b, 0, none⟩ = some u) (hlt : b < w.heap.size) (hb : Below w.heap.size w w1) : w1.cell? ⟨b, 0, none⟩ = some u := (hb.cell (p := ⟨b, 0, none⟩) hlt).trans h
theorem cellSet {b : Nat} {u u' : Value} (h : w.cell? ⟨b, 0, none⟩ = some u) : (w.setCell ⟨b, 0, none⟩ u').cell? ⟨b, 0, none⟩ = some u' := by simp [go_sem, h]
theorem cellAl {t : TypeId} {u : Value} : (w.alloc (Obj.cells #[u] t)).cell? ⟨w.heap.size, 0, none⟩ = some u := by simp [go_sem]
theorem leDr : w.heap.size ≤ w.drew.heap.size := Nat.le_refl _
theorem leDrA : w.heap.size ≤ (w.drew.alloc o).heap.size := Nat.le_trans (leDr (w := w)) (by simp)
theorem leA : w.heap.size ≤ (w.alloc o).heap.size := by simp
theorem slA (h : Sl E w w.heap.size v xs) : Sl E (w.alloc o) (w.alloc o).heap.size v xs := (h.below ((Below.refl _ _).alloc (Nat.le_refl _) _)).le (by simp)
theorem slUp1 (h : Sl E w w.heap.size v xs) : Sl E (w.drew.alloc o) (w.drew.alloc o).heap.size v xs := slA (slUp0 h)
theorem slUp2 (h : Sl E w w.heap.size v xs) (hb : Below w.drew.heap.size w.drew w1) : Sl E w1 w1.heap.size v xs := SlS.up (slUp0 h) hb
theorem slUp3 (h : Sl E w w.heap.size v xs) (hb : Below w.drew.heap.size w.drew w1) : Sl E (w1.alloc o) (w1.alloc o).heap.size v xs := slA (slUp2 h hb)
theorem slUp4 (h : Sl E w w.heap.size v xs) (hb : Below (w.drew.alloc o).heap.size (w.drew.alloc o) w1) : Sl E w1 w1.heap.size v xs := SlS.up (slUp1 h) hb
theorem slUp5 {base : Nat} {v : Value} {xs : List GRule} (h : OwnRules w base v xs) (hb : Below w.heap.size w w1) : Sl RuleE w1 w1.heap.size v xs := (h.sl).up hb
theorem slUp6 {base : Nat} {v : Value} {xs : List GRule} (h : OwnRules w base v xs) (hb : Below w.heap.size w w1) : Sl RuleE (w1.alloc o) (w1.alloc o).heap.size v xs := slA (slUp5 h hb)
theorem slUp7 {base : Nat} {v : Value} {xs : List GRule} (h : OwnRules w base v xs) (hb : Below (w.alloc o).heap.size (w.alloc o) w1) : Sl RuleE w1 w1.heap.size v xs := SlS.up (slA h.sl) hb
theorem slUp8 {base : Nat} {v : Value} {xs : List GRule} (h : OwnRules w base v xs) : Sl RuleE (w.alloc o) (w.alloc o).heap.size v xs := slA h.sl
end

theorem joinOut_len (xs ys : List GRule) : (joinOut xs ys).length ≤ 1048576 := by
  unfold joinOut limOut
  split
  · split
    · rename_i h; have := (gram_lens h).1; omega
    · simp
  · simp
theorem markGrammarI (base : Nat) (v : Value) (xs : List GRule) (k : Nat) (q : Int) (w : World) (hq : q = k) (h : OwnRules w base v xs) (hn : xs.length ≤ 1099511627776) (hk : k ≤ 1099511627776) :
    Calls Try.prog 31 #[.agg #[v], .int .i64 q] w fun e w' => e = .returned (.int .i64 ((k + 3 * xs.length : Nat) : Int)) ∧ OwnRules w' base v (marks k xs.length) ∧ w.grownBy w' v.ownBlock := by
  subst hq
  exact markGrammar_any base v xs k w h hn hk

set_option maxRecDepth 100000 in
set_option maxHeartbeats 16000000 in
theorem lawJoin_any (v u : Value) (xs ys : List GRule) (w : World) (h : Sl RuleE w w.heap.size v xs) (h' : Sl RuleE w w.heap.size u ys) (hsm : SmallL xs) (hsm' : SmallL ys) :
    Calls Try.prog 7 #[.agg #[v], .agg #[u]] w fun e w' => e = .returned (.bool true) ∧ Below w.heap.size w w' := by
  have h1 := fun o o' => (h.below (((Below.refl w.heap.size w).alloc (Nat.le_refl _) o).alloc (by simp) o')).le (B' := ((w.alloc o).alloc o').heap.size) (by simp; omega)
  have h2 := fun o o' => (h'.below (((Below.refl w.heap.size w).alloc (Nat.le_refl _) o).alloc (by simp) o')).le (B' := ((w.alloc o).alloc o').heap.size) (by simp; omega)
  have H1 := Lib.hid h1
  have H2 := Lib.hid h2
  clear h1 h2
  have H0 := Lib.hid h
  have H0' := Lib.hid h'
  obtain ⟨A, c, rfl, _⟩ := h
  obtain ⟨A', c', rfl, _⟩ := h'
  go_enter Try.func7, Try.ntmps7
  go_wp2_with fail
  refine (szGrammar_any _ _ _ _ (H1.out _ _) hsm (by omega)).mono ?_
  rintro e w1 ⟨rfl, hb1⟩
  have hb1' : Below (w.heap.size + 1 + 1) ((w.alloc (Obj.cells #[Value.slice A xs.length c] 52)).alloc (Obj.cells #[Value.slice A' ys.length c'] 52)) w1 := by simpa using hb1
  have B1 := Lib.hid ((((Below.refl w.heap.size w).alloc (Nat.le_refl _) (Obj.cells #[Value.slice A xs.length c] 52)).alloc (by simp) (Obj.cells #[Value.slice A' ys.length c'] 52)).trans (hb1'.mono (by omega)))
  have z1 : w.heap.size + 1 < w1.heap.size := by have := hb1'.size; simp at this; omega
  have y1 : w.heap.size < w1.heap.size := by omega
  have a1 : w1.cell? ⟨w.heap.size, 0, none⟩ = some (.slice A xs.length c) := cell_up (by simp [go_sem]) hb1' (by omega)
  have a1' : w1.cell? ⟨w.heap.size + 1, 0, none⟩ = some (.slice A' ys.length c') := cell_up (by simp [go_sem]) hb1' (by omega)
  have S1 := Lib.hid ((H1.out (Obj.cells #[Value.slice A xs.length c] 52) (Obj.cells #[Value.slice A' ys.length c'] 52)).up hb1)
  have S1' := Lib.hid ((H2.out (Obj.cells #[Value.slice A xs.length c] 52) (Obj.cells #[Value.slice A' ys.length c'] 52)).up hb1)
  clear hb1 hb1'
  by_cases hneg : szRs xs 1048576 < 0
  · have H := Lib.hid hneg
    rw [if_pos hneg]
    clear hneg
    go_wp2
    go_ret
    exact ⟨rfl, B1.out⟩
  · rw [if_neg hneg]
    obtain ⟨hle, hlen⟩ := szRs_le xs 1048576 (by omega)
    have hn : xs.length ≤ 1048576 := by omega
    have hpos : ¬ szRs xs 1048576 < 0 := hneg
    have hpos2 : szRs xs 1048576 ≤ 1048576 := by omega
    clear hneg hlen hle
    go_wp2_with fail
    refine (szGrammar_any _ _ _ _ S1'.out hsm' (by omega)).mono ?_
    rintro e w2 ⟨rfl, hb2⟩
    have z2 : w1.heap.size ≤ w2.heap.size := hb2.size
    have y2 : w.heap.size < w2.heap.size := by omega
    have y2' : w.heap.size + 1 < w2.heap.size := by omega
    have a2 := cell_up a1 hb2 (by omega)
    have a2' := cell_up a1' hb2 (by omega)
    have S2 := Lib.hid (S1.out.up hb2)
    have S2' := Lib.hid (S1'.out.up hb2)
    have B2 := Lib.hid (B1.out.trans (hb2.mono (by omega)))
    clear a1 a1' hb2
    by_cases hneg' : szRs ys (szRs xs 1048576) < 0
    · have H := Lib.hid hneg'
      rw [if_pos hneg']
      clear hneg'
      go_wp2
      go_ret
      exact ⟨rfl, B2.out⟩
    · rw [if_neg hneg']
      obtain ⟨hle, hlen⟩ := szRs_le ys (szRs xs 1048576) (by omega)
      have hn' : ys.length ≤ 1048576 := by omega
      clear hlen hle
      have hneg2 : szRs ys (szRs xs 1048576) ≥ 0 := by omega
      have Hneg2 := Lib.hid hneg2
      go_upto_region 8 with fail
      go_cut [6, 7] (fun p q wx => ∃ (b : Nat) (vW : Value), p = .pointer (some ⟨b, 0, none⟩) ∧ q = .int .i64 (joinCode xs ys) ∧ w.heap.size + 2 ≤ b ∧ b < wx.heap.size ∧ wx.cell? ⟨b, 0, none⟩ = some vW ∧ Sl RuleE wx wx.heap.size vW (joinOut xs ys) ∧ Below w2.heap.size w2 wx)
      case first =>
        go_region_law (first
          | (go_simp; go_at_call 28; refine (toGrammar_any _ xs _ (by first | exact slUp0 S2.out | exact slUp1 S2.out) hn).mono ?_; rintro e w3 ⟨v3, rfl, own3, hb3⟩; have k3 : w3.cell? ⟨w.heap.size + 1, 0, none⟩ = some (.slice A' ys.length c') := cell_up (by simp [go_sem, a2', y2']) hb3 (Nat.lt_of_lt_of_le y2' (by first | exact leDr | exact leDrA)); have l3 : w2.heap.size ≤ w3.heap.size := (Nat.le_trans (by first | exact leDr | exact leDrA) hb3.size); obtain ⟨hcc3, hff3⟩ := bcell hb3; have m3 : w.heap.size + 1 < w3.heap.size := (by omega); have b3 : Below w2.heap.size w2 w3 := (by first | exact bSt (Below.drew (Below.refl _ _)) leDr hb3 | exact bStA (Below.drew (Below.refl _ _)) leDr hb3); (try have n3 : w2.heap.size < w3.heap.size := szS0 hb3); (try have g3 := cellNew0 hb3))
          | (go_simp; go_at_call 28; refine (toGrammar_any _ ys _ (by first | exact slUp2 S2'.out hb3 | exact slUp3 S2'.out hb3 | exact slUp4 S2'.out hb3) hn').mono ?_; rintro e w4 ⟨v4, rfl, own4, hb4⟩; have l4 : w3.heap.size ≤ w4.heap.size := (Nat.le_trans (by first | exact Nat.le_refl _ | exact leA) hb4.size); obtain ⟨hcc4, hff4⟩ := bcell hb4; have b4 : Below w2.heap.size w2 w4 := (by first | exact bSt b3 l3 hb4 | exact bStA b3 l3 hb4); (try have n4 : w3.heap.size < w4.heap.size := szS hb4); (try have n4' : w2.heap.size < w4.heap.size := (by omega)); (try have g4 := cellNew hb4); (try have g4 := cellUpA g3 n3 hb4))
          | (go_simp; go_at_call 33; refine (specJoin_any _ _ xs ys _ (by first | exact slUp5 own3 hb4 | exact slUp6 own3 hb4 | exact slUp7 own3 hb4) (by first | exact own4.sl | exact slUp8 own4) hn hn' hsm hsm').mono ?_; rintro e w5 ⟨hb5, vW, ownW, rfl⟩; have l5 : w4.heap.size ≤ w5.heap.size := (Nat.le_trans (by first | exact Nat.le_refl _ | exact leA) hb5.size); obtain ⟨AW, cW, rfl, _⟩ := own_nil ownW; obtain ⟨hcc5, hff5⟩ := bcell hb5; have b5 : Below w2.heap.size w2 w5 := (by first | exact bSt b4 (Nat.le_trans l3 l4) hb5 | exact bStA b4 (Nat.le_trans l3 l4) hb5); (try have n5 : w4.heap.size < w5.heap.size := szS hb5); (try have n5' : w3.heap.size < w5.heap.size := (by omega)); (try have n5'' : w2.heap.size < w5.heap.size := (by omega)); (try have g5 := cellNew hb5); (try have g5 := cellUpA g4 n4 hb5); (try have g5 := cellUpA g4 n4' hb5)))
        all_goals
          go_wp2_with fail
          go_meet
          refine ⟨_, .slice AW (joinOut xs ys).length cW, rfl, rfl, ?_, ?_, ?_, ?_, ?_⟩
          · omega
          · simp; try omega
          · first
              | exact cellAl
              | exact cellSet g5
          · first
              | exact slA ownW.sl
              | exact slSet ownW (by omega)
              | exact slSet ownW (by simp)
              | exact slSet ownW (by simp; omega)
          · first
              | exact b5.alloc (by omega) _
              | exact b5.setCell (by show w2.heap.size ≤ w3.heap.size; omega) _
              | exact b5.setCell (by show w2.heap.size ≤ w4.heap.size; omega) _
              | exact b5.setCell (Nat.le_refl _) _
      case rest =>
        revert hcut
        generalize wc = w3
        intro hcut
        obtain ⟨bW, vW, rfl, rfl, hbW, hk3, k3, sW, hb3⟩ := hcut
        have Sw3 := Lib.hid sW
        clear sW
        obtain ⟨AW, cW, rfl, _⟩ := Sw3.out
        have z3 : w2.heap.size ≤ w3.heap.size := hb3.size
        have ha3 : w.heap.size < w3.heap.size := by omega
        have he3 : w.heap.size + 1 < w3.heap.size := by omega
        have a3 := cell_up a2 hb3 (by omega)
        have e3 := cell_up a2' hb3 (by omega)
        have Sx3 := Lib.hid (S2.out.below hb3)
        have Sy3 := Lib.hid (S2'.out.below hb3)
        have B3 := Lib.hid (B2.out.trans (hb3.mono (by omega)))
        clear a2 a2' hb3
        go_wp2_with fail
        refine (toGrammar_any _ xs _ (Sx3.out.le (by omega)) hn).mono ?_
        rintro e w4 ⟨vX, rfl, ownX, hb4⟩
        obtain ⟨AX, cX, rfl, _⟩ := own_nil ownX
        have z4 : w3.heap.size ≤ w4.heap.size := hb4.size
        have a4 := cell_up a3 hb4 (by omega)
        have e4 := cell_up e3 hb4 (by omega)
        have k4 := cell_up k3 hb4 (by omega)
        have Sx4 := Lib.hid (Sx3.out.below (hb4.mono (by omega)))
        have Sy4 := Lib.hid (Sy3.out.below (hb4.mono (by omega)))
        have Sw4 := Lib.hid (Sw3.out.below (hb4.mono (by omega)))
        have B4 := Lib.hid (B3.out.trans (hb4.mono (by omega)))
        have ha4 : w.heap.size < w4.heap.size := by omega
        have he4 : w.heap.size + 1 < w4.heap.size := by omega
        have hk4 : bW < w4.heap.size := by omega
        clear hb4 a3 e3 k3
        have OX4 := Lib.hid ownX
        have RX := Lib.hid (own_rng ownX)
        clear ownX
        go_wp2_with fail
        refine (toGrammar_any _ ys _ ((Sy4.out.below ((Below.refl _ _).alloc (by omega) _)).le (by first | omega | (simp; done) | (simp; omega))) hn').mono ?_
        rintro e w5 ⟨vY, rfl, ownY, hb5⟩
        obtain ⟨AY, cY, rfl, _⟩ := own_nil ownY
        have hb5' : Below (w4.heap.size + 1) (w4.alloc (Obj.cells #[.slice AX xs.length cX] 56)) w5 := by simpa using hb5
        have z5 : w4.heap.size < w5.heap.size := by have := hb5'.size; simp at this; omega
        have a5 : w5.cell? ⟨w.heap.size, 0, none⟩ = some (.slice A xs.length c) := cell_up (by simp [go_sem, a4, ha4]) hb5' (by omega)
        have e5 : w5.cell? ⟨w.heap.size + 1, 0, none⟩ = some (.slice A' ys.length c') := cell_up (by simp [go_sem, e4, he4]) hb5' (by omega)
        have k5 : w5.cell? ⟨bW, 0, none⟩ = some (.slice AW (joinOut xs ys).length cW) := cell_up (by simp [go_sem, k4, hk4]) hb5' (by omega)
        have p5 : w5.cell? ⟨w4.heap.size, 0, none⟩ = some (.slice AX xs.length cX) := cell_up (by simp [go_sem]) hb5' (by omega)
        have Sx5 := Lib.hid ((Sx4.out.below ((Below.refl _ _).alloc (by omega) _)).below (hb5'.mono (by omega)))
        have Sy5 := Lib.hid ((Sy4.out.below ((Below.refl _ _).alloc (by omega) _)).below (hb5'.mono (by omega)))
        have Sw5 := Lib.hid ((Sw4.out.below ((Below.refl _ _).alloc (by omega) _)).below (hb5'.mono (by omega)))
        have OX5 := Lib.hid (ownsRow_below (World.ownsRow.alloc OX4.out _) hb5)
        have B5 := Lib.hid ((B4.out.alloc (by omega) _).trans (hb5'.mono (by omega)))
        have ha5 : w.heap.size < w5.heap.size := by omega
        have he5 : w.heap.size + 1 < w5.heap.size := by omega
        have hk5 : bW < w5.heap.size := by omega
        have hp5 : w4.heap.size < w5.heap.size := by omega
        clear hb5 hb5' a4 e4 k4
        have OY5 : Hid (OwnRules w5 (w4.heap.size + 1) (.slice AY ys.length cY) ys) := Lib.hid (ownsRow_more ownY (by simp))
        have RY := Lib.hid (own_rng OY5.out)
        clear ownY
        go_wp2_with fail
        refine (implJoin_any _ _ xs ys _ (slA (OwnRules.sl OX5.out)) (slA (OwnRules.sl OY5.out)) hn hn').mono ?_
        rintro e w6 ⟨hb6, vG, ownG, rfl⟩
        obtain ⟨AG, cG, rfl, _⟩ := own_nil ownG
        have hb6' : Below (w5.heap.size + 1) (w5.alloc (Obj.cells #[.slice AY ys.length cY] 56)) w6 := by simpa using hb6
        have z6 : w5.heap.size < w6.heap.size := by have := hb6'.size; simp at this; omega
        have a6 : w6.cell? ⟨w.heap.size, 0, none⟩ = some (.slice A xs.length c) := cell_up (by simp [go_sem, a5, ha5]) hb6' (by omega)
        have e6 : w6.cell? ⟨w.heap.size + 1, 0, none⟩ = some (.slice A' ys.length c') := cell_up (by simp [go_sem, e5, he5]) hb6' (by omega)
        have k6 : w6.cell? ⟨bW, 0, none⟩ = some (.slice AW (joinOut xs ys).length cW) := cell_up (by simp [go_sem, k5, hk5]) hb6' (by omega)
        have p6 : w6.cell? ⟨w4.heap.size, 0, none⟩ = some (.slice AX xs.length cX) := cell_up (by simp [go_sem, p5, hp5]) hb6' (by omega)
        have q6 : w6.cell? ⟨w5.heap.size, 0, none⟩ = some (.slice AY ys.length cY) := cell_up (by simp [go_sem]) hb6' (by omega)
        have Sx6 := Lib.hid ((Sx5.out.below ((Below.refl _ _).alloc (by omega) _)).below (hb6'.mono (by omega)))
        have Sy6 := Lib.hid ((Sy5.out.below ((Below.refl _ _).alloc (by omega) _)).below (hb6'.mono (by omega)))
        have Sw6 := Lib.hid ((Sw5.out.below ((Below.refl _ _).alloc (by omega) _)).below (hb6'.mono (by omega)))
        have OX6 := Lib.hid (ownsRow_below (World.ownsRow.alloc OX5.out _) hb6)
        have OY6 := Lib.hid (ownsRow_below (World.ownsRow.alloc OY5.out _) hb6)
        have B6 := Lib.hid ((B5.out.alloc (by omega) _).trans (hb6'.mono (by omega)))
        have ha6 : w.heap.size < w6.heap.size := by omega
        have he6 : w.heap.size + 1 < w6.heap.size := by omega
        have hk6 : bW < w6.heap.size := by omega
        have hp6 : w4.heap.size < w6.heap.size := by omega
        have hq6 : w5.heap.size < w6.heap.size := by omega
        clear hb6 hb6' a5 e5 k5 p5
        have OG6 : Hid (OwnRules w6 (w5.heap.size + 1) (.slice AG (joinOut xs ys).length cG) (joinOut xs ys)) := Lib.hid (ownsRow_more ownG (by simp))
        have RG := Lib.hid (own_rng OG6.out)
        clear ownG
        go_wp2_with fail
        refine (eqGrammar_any _ _ _ _ (slA (OwnRules.sl OG6.out)) ((Sw6.out.below ((Below.refl _ _).alloc (by omega) _)).le (by first | omega | (simp; done) | (simp; omega)))).mono ?_
        rintro e w7 ⟨rfl, hb7⟩
        have hb7' : Below (w6.heap.size + 1) (w6.alloc (Obj.cells #[.slice AG (joinOut xs ys).length cG] 56)) w7 := by simpa using hb7
        have z7 : w6.heap.size < w7.heap.size := by have := hb7'.size; simp at this; omega
        have a7 : w7.cell? ⟨w.heap.size, 0, none⟩ = some (.slice A xs.length c) := cell_up (by simp [go_sem, a6, ha6]) hb7' (by omega)
        have e7 : w7.cell? ⟨w.heap.size + 1, 0, none⟩ = some (.slice A' ys.length c') := cell_up (by simp [go_sem, e6, he6]) hb7' (by omega)
        have k7 : w7.cell? ⟨bW, 0, none⟩ = some (.slice AW (joinOut xs ys).length cW) := cell_up (by simp [go_sem, k6, hk6]) hb7' (by omega)
        have p7 : w7.cell? ⟨w4.heap.size, 0, none⟩ = some (.slice AX xs.length cX) := cell_up (by simp [go_sem, p6, hp6]) hb7' (by omega)
        have q7 : w7.cell? ⟨w5.heap.size, 0, none⟩ = some (.slice AY ys.length cY) := cell_up (by simp [go_sem, q6, hq6]) hb7' (by omega)
        have g7 : w7.cell? ⟨w6.heap.size, 0, none⟩ = some (.slice AG (joinOut xs ys).length cG) := cell_up (by simp [go_sem]) hb7' (by omega)
        have Sx7 := Lib.hid ((Sx6.out.below ((Below.refl _ _).alloc (by omega) _)).below (hb7'.mono (by omega)))
        have Sy7 := Lib.hid ((Sy6.out.below ((Below.refl _ _).alloc (by omega) _)).below (hb7'.mono (by omega)))
        have Sw7 := Lib.hid ((Sw6.out.below ((Below.refl _ _).alloc (by omega) _)).below (hb7'.mono (by omega)))
        have OX7 := Lib.hid (ownsRow_below (World.ownsRow.alloc OX6.out _) hb7)
        have OY7 := Lib.hid (ownsRow_below (World.ownsRow.alloc OY6.out _) hb7)
        have OG7 := Lib.hid (ownsRow_below (World.ownsRow.alloc OG6.out _) hb7)
        have B7 := Lib.hid ((B6.out.alloc (by omega) _).trans (hb7'.mono (by omega)))
        have ha7 : w.heap.size < w7.heap.size := by omega
        have he7 : w.heap.size + 1 < w7.heap.size := by omega
        have hk7 : bW < w7.heap.size := by omega
        have hp7 : w4.heap.size < w7.heap.size := by omega
        have hq7 : w5.heap.size < w7.heap.size := by omega
        have hg7 : w6.heap.size < w7.heap.size := by omega
        clear hb7 hb7' a6 e6 k6 p6 q6
        go_wp2_with fail
        go_region_held3 (fun w' => Below w7.heap.size w7 w' ∧ w'.cell? ⟨w4.heap.size, 0, none⟩ = some (.slice AX xs.length cX) ∧ w'.cell? ⟨w.heap.size, 0, none⟩ = some (.slice A xs.length c))
          (first | exact ⟨(Below.refl _ _).drew, p7, a7⟩ | (exact keepC (by assumption) hb8 hp7 ha7) | (exact keepC (by assumption) hb9 hp7 ha7))
          (first
            | (go_at_call 28; refine (toGrammar_any _ xs _ ((Sx7.out.below (Below.drew (Below.refl _ _))).le (by show w2.heap.size ≤ w7.heap.size; omega)) hn).mono ?_; rintro e w8 ⟨v8, rfl, own8, hb8⟩)
            | (go_at_call 30; refine (eqGrammar_any _ _ xs _ (Hid_slR OX7.out (Below.drew (Below.refl _ _)) hb8) own8.sl).mono ?_; rintro e w9 ⟨rfl, hb9⟩))
        have hbx9 : Below w7.heap.size w7 w9 := (Below.drew (Below.refl _ _)).trans (hb8.trans (hb9.mono hb8.size))
        clear hb8 own8 hb9
        have hb9 := hbx9
        clear hbx9
        have z9 : w7.heap.size ≤ w9.heap.size := hb9.size
        have a9 := cell_up a7 hb9 (by omega)
        have e9 := cell_up e7 hb9 (by omega)
        have k9 := cell_up k7 hb9 (by omega)
        have p9 := cell_up p7 hb9 (by omega)
        have q9 := cell_up q7 hb9 (by omega)
        have g9 := cell_up g7 hb9 (by omega)
        have Sx9 := Lib.hid (Sx7.out.below (hb9.mono (by omega)))
        have Sy9 := Lib.hid (Sy7.out.below (hb9.mono (by omega)))
        have Sw9 := Lib.hid (Sw7.out.below (hb9.mono (by omega)))
        have OX9 := Lib.hid (ownsRow_below OX7.out hb9)
        have OY9 := Lib.hid (ownsRow_below OY7.out hb9)
        have OG9 := Lib.hid (ownsRow_below OG7.out hb9)
        have B9 := Lib.hid (B7.out.trans (hb9.mono (by omega)))
        have ha9 : w.heap.size < w9.heap.size := by omega
        have he9 : w.heap.size + 1 < w9.heap.size := by omega
        have hk9 : bW < w9.heap.size := by omega
        have hp9 : w4.heap.size < w9.heap.size := by omega
        have hq9 : w5.heap.size < w9.heap.size := by omega
        have hg9 : w6.heap.size < w9.heap.size := by omega
        clear hb9 a7 e7 k7 p7 q7 g7
        go_wp2_with fail
        go_region_held3 (fun w' => Below w9.heap.size w9 w' ∧ w'.cell? ⟨w5.heap.size, 0, none⟩ = some (.slice AY ys.length cY) ∧ w'.cell? ⟨w.heap.size + 1, 0, none⟩ = some (.slice A' ys.length c'))
          (first | exact ⟨(Below.refl _ _).drew, q9, e9⟩ | (exact keepC (by assumption) hb10 hq9 he9) | (exact keepC (by assumption) hb11 hq9 he9))
          (first
            | (go_at_call 28; refine (toGrammar_any _ ys _ ((Sy9.out.below (Below.drew (Below.refl _ _))).le (by show w2.heap.size ≤ w9.heap.size; omega)) hn').mono ?_; rintro e w10 ⟨v10, rfl, own10, hb10⟩)
            | (go_at_call 30; refine (eqGrammar_any _ _ ys _ (Hid_slR OY9.out (Below.drew (Below.refl _ _)) hb10) own10.sl).mono ?_; rintro e w11 ⟨rfl, hb11⟩))
        have hbx11 : Below w9.heap.size w9 w11 := (Below.drew (Below.refl _ _)).trans (hb10.trans (hb11.mono hb10.size))
        clear hb10 own10 hb11
        have hb11 := hbx11
        clear hbx11
        have z11 : w9.heap.size ≤ w11.heap.size := hb11.size
        have a11 := cell_up a9 hb11 (by omega)
        have e11 := cell_up e9 hb11 (by omega)
        have k11 := cell_up k9 hb11 (by omega)
        have p11 := cell_up p9 hb11 (by omega)
        have q11 := cell_up q9 hb11 (by omega)
        have g11 := cell_up g9 hb11 (by omega)
        have Sx11 := Lib.hid (Sx9.out.below (hb11.mono (by omega)))
        have Sy11 := Lib.hid (Sy9.out.below (hb11.mono (by omega)))
        have Sw11 := Lib.hid (Sw9.out.below (hb11.mono (by omega)))
        have OX11 := Lib.hid (ownsRow_below OX9.out hb11)
        have OY11 := Lib.hid (ownsRow_below OY9.out hb11)
        have OG11 := Lib.hid (ownsRow_below OG9.out hb11)
        have B11 := Lib.hid (B9.out.trans (hb11.mono (by omega)))
        have ha11 : w.heap.size < w11.heap.size := by omega
        have he11 : w.heap.size + 1 < w11.heap.size := by omega
        have hk11 : bW < w11.heap.size := by omega
        have hp11 : w4.heap.size < w11.heap.size := by omega
        have hq11 : w5.heap.size < w11.heap.size := by omega
        have hg11 : w6.heap.size < w11.heap.size := by omega
        clear hb11 a9 e9 k9 p9 q9 g9
        have hGX : ∀ g, (Value.slice AG (joinOut xs ys).length cG).ownBlock = some g → some g ≠ (Value.slice AX xs.length cX).ownBlock := fun g hg e => by
          have h1 := (RG.out g hg).1
          have h2 := (RX.out g e.symm).2
          omega
        have hYX : ∀ g, (Value.slice AY ys.length cY).ownBlock = some g → some g ≠ (Value.slice AX xs.length cX).ownBlock := fun g hg e => by
          have h1 := (RY.out g hg).1
          have h2 := (RX.out g e.symm).2
          omega
        have hGY : ∀ g, (Value.slice AG (joinOut xs ys).length cG).ownBlock = some g → some g ≠ (Value.slice AY ys.length cY).ownBlock := fun g hg e => by
          have h1 := (RG.out g hg).1
          have h2 := (RY.out g e.symm).2
          omega
        have hnX : ∀ b, w4.heap.size ≤ b → some b ≠ (Value.slice AX xs.length cX).ownBlock := fun b hb e => by
          have h2 := (RX.out b e.symm).2
          omega
        have hnY : ∀ b, w5.heap.size ≤ b → some b ≠ (Value.slice AY ys.length cY).ownBlock := fun b hb e => by
          have h2 := (RY.out b e.symm).2
          omega
        have hnG : ∀ b, w6.heap.size ≤ b → some b ≠ (Value.slice AG (joinOut xs ys).length cG).ownBlock := fun b hb e => by
          have h2 := (RG.out b e.symm).2
          omega
        have HGX := Lib.hid hGX
        have HYX := Lib.hid hYX
        have HGY := Lib.hid hGY
        have HnX := Lib.hid hnX
        have HnY := Lib.hid hnY
        have HnG := Lib.hid hnG
        clear hGX hYX hGY hnX hnY hnG
        go_wp2_with fail
        refine (markGrammar1 _ _ xs _ OX11.out (by omega)).mono ?_
        rintro e w12 ⟨rfl, own12, hg12⟩
        have hb12 : Below (w3.heap.size) w11 w12 := below_of_grown hg12 (by omega) (fun g hg => (RX.out g hg).1)
        have z12 : w11.heap.size ≤ w12.heap.size := hg12.size
        have a12 := cell_up a11 hb12 (by omega)
        have e12 := cell_up e11 hb12 (by omega)
        have k12 := cell_up k11 hb12 (by omega)
        have q12 := cell_up_grown q11 hg12 (by omega) (HnX.out _ (by omega))
        have g12 := cell_up_grown g11 hg12 (by omega) (HnX.out _ (by omega))
        have OY12 := Lib.hid (OwnRules.keep OY11.out hg12 HYX.out)
        have OG12 := Lib.hid (OwnRules.keep OG11.out hg12 HGX.out)
        have Sx12 := Lib.hid (Sx11.out.below (hb12.mono (by omega)))
        have Sy12 := Lib.hid (Sy11.out.below (hb12.mono (by omega)))
        have Sw12 := Lib.hid (Sw11.out.below (hb12.mono (by omega)))
        have B12 := Lib.hid (B11.out.trans (hb12.mono (by omega)))
        have ha12 : w.heap.size < w12.heap.size := by omega
        have he12 : w.heap.size + 1 < w12.heap.size := by omega
        have hk12 : bW < w12.heap.size := by omega
        have hq12 : w5.heap.size < w12.heap.size := by omega
        have hg12 : w6.heap.size < w12.heap.size := by omega
        clear a11 e11 k11 q11 g11 p11 hg12 hb12
        clear own12
        go_wp2_with fail
        refine (markGrammarI _ _ ys (1 + 3 * xs.length) (1 + 3 * (xs.length : Int)) _ (by simp) OY12.out (by omega) (by omega)).mono ?_
        rintro e w13 ⟨rfl, own13, hg13⟩
        have hb13 : Below (w4.heap.size + 1) w12 w13 := below_of_grown hg13 (by omega) (fun g hg => (RY.out g hg).1)
        have z13 : w12.heap.size ≤ w13.heap.size := hg13.size
        have a13 := cell_up a12 hb13 (by omega)
        have e13 := cell_up e12 hb13 (by omega)
        have k13 := cell_up k12 hb13 (by omega)
        have g13 := cell_up_grown g12 hg13 (by omega) (HnY.out _ (by omega))
        have OG13 := Lib.hid (OwnRules.keep OG12.out hg13 HGY.out)
        have Sx13 := Lib.hid (Sx12.out.below (hb13.mono (by omega)))
        have Sy13 := Lib.hid (Sy12.out.below (hb13.mono (by omega)))
        have Sw13 := Lib.hid (Sw12.out.below (hb13.mono (by omega)))
        have B13 := Lib.hid (B12.out.trans (hb13.mono (by omega)))
        have ha13 : w.heap.size < w13.heap.size := by omega
        have he13 : w.heap.size + 1 < w13.heap.size := by omega
        have hk13 : bW < w13.heap.size := by omega
        have hg13 : w6.heap.size < w13.heap.size := by omega
        clear a12 e12 k12 g12 q12 hg13 hb13
        clear own13
        have e0 : (decide (((1 + 3 * xs.length + 3 * ys.length : Nat) : Int) < 0)) = false := by simp; omega
        go_wp2_with fail
        refine (eqGrammar_any _ _ _ _ (OwnRules.sl OG13.out) (Sw13.out.le (by omega))).mono ?_
        rintro e w14 ⟨rfl, hb14⟩
        have z14 : w13.heap.size ≤ w14.heap.size := hb14.size
        have a14 := cell_up a13 hb14 (by omega)
        have e14 := cell_up e13 hb14 (by omega)
        have k14 := cell_up k13 hb14 (by omega)
        have g14 := cell_up g13 hb14 (by omega)
        have Sx14 := Lib.hid (Sx13.out.below (hb14.mono (by omega)))
        have Sy14 := Lib.hid (Sy13.out.below (hb14.mono (by omega)))
        have Sw14 := Lib.hid (Sw13.out.below (hb14.mono (by omega)))
        have OG14 := Lib.hid (ownsRow_below OG13.out hb14)
        have B14 := Lib.hid (B13.out.trans (hb14.mono (by omega)))
        have ha14 : w.heap.size < w14.heap.size := by omega
        have he14 : w.heap.size + 1 < w14.heap.size := by omega
        have hk14 : bW < w14.heap.size := by omega
        have hg14 : w6.heap.size < w14.heap.size := by omega
        clear hb14 a13 e13 k13 g13
        clear e0
        have hlo : (joinOut xs ys).length ≤ 1048576 := joinOut_len xs ys
        go_wp2_with fail
        refine (markGrammar1 _ _ _ _ OG14.out (by omega)).mono ?_
        rintro e w15 ⟨rfl, own15, hg15⟩
        have hb15 : Below (w5.heap.size + 1) w14 w15 := below_of_grown hg15 (by omega) (fun g hg => (RG.out g hg).1)
        have z15 : w14.heap.size ≤ w15.heap.size := hg15.size
        have a15 := cell_up a14 hb15 (by omega)
        have e15 := cell_up e14 hb15 (by omega)
        have k15 := cell_up k14 hb15 (by omega)
        have g15 := cell_up_grown g14 hg15 (by omega) (HnG.out _ (by omega))
        have Sx15 := Lib.hid (Sx14.out.below (hb15.mono (by omega)))
        have Sy15 := Lib.hid (Sy14.out.below (hb15.mono (by omega)))
        have Sw15 := Lib.hid (Sw14.out.below (hb15.mono (by omega)))
        have B15 := Lib.hid (B14.out.trans (hb15.mono (by omega)))
        have ha15 : w.heap.size < w15.heap.size := by omega
        have he15 : w.heap.size + 1 < w15.heap.size := by omega
        have hk15 : bW < w15.heap.size := by omega
        have hg15 : w6.heap.size < w15.heap.size := by omega
        clear a14 e14 k14 g14 hg15 hb15
        have OM15 := Lib.hid own15
        clear own15
        go_wp2_with fail
        refine (heldGrammar1 _ _ _ (OwnRules.sl OM15.out) (by omega)).mono ?_
        rintro e w16 ⟨rfl, hb16⟩
        have z16 : w15.heap.size ≤ w16.heap.size := hb16.size
        have a16 := cell_up a15 hb16 (by omega)
        have e16 := cell_up e15 hb16 (by omega)
        have k16 := cell_up k15 hb16 (by omega)
        have g16 := cell_up g15 hb16 (by omega)
        have Sx16 := Lib.hid (Sx15.out.below (hb16.mono (by omega)))
        have Sy16 := Lib.hid (Sy15.out.below (hb16.mono (by omega)))
        have Sw16 := Lib.hid (Sw15.out.below (hb16.mono (by omega)))
        have OM16 := Lib.hid (ownsRow_below OM15.out hb16)
        have B16 := Lib.hid (B15.out.trans (hb16.mono (by omega)))
        have ha16 : w.heap.size < w16.heap.size := by omega
        have he16 : w.heap.size + 1 < w16.heap.size := by omega
        have hk16 : bW < w16.heap.size := by omega
        have hg16 : w6.heap.size < w16.heap.size := by omega
        clear hb16 a15 e15 k15 g15
        have SX := Lib.hid (Sx16.out.le (B' := w16.heap.size) (by omega))
        have SY := Lib.hid (Sy16.out.le (B' := w16.heap.size) (by omega))
        go_upto_region 31 with fail
        go_cut [15, 16] (fun p q wx => ∃ (b : Nat) (vW : Value), p = .pointer (some ⟨b, 0, none⟩) ∧ q = .int .i64 (joinCode xs ys) ∧ w16.heap.size ≤ b ∧ b < wx.heap.size ∧ wx.cell? ⟨b, 0, none⟩ = some vW ∧ Sl RuleE wx wx.heap.size vW (joinOut xs ys) ∧ Below w16.heap.size w16 wx)
        case first =>
          go_region_law (first
            | (go_simp; go_at_call 28; refine (toGrammar_any _ xs _ (by first | exact slUp0 SX.out | exact slUp1 SX.out) hn).mono ?_; rintro e w17 ⟨v3, rfl, own3, hb3⟩; have k3 : w17.cell? ⟨w.heap.size + 1, 0, none⟩ = some (.slice A' ys.length c') := cell_up (by simp [go_sem, e16, he16]) hb3 (Nat.lt_of_lt_of_le he16 (by first | exact leDr | exact leDrA)); have l3 : w16.heap.size ≤ w17.heap.size := (Nat.le_trans (by first | exact leDr | exact leDrA) hb3.size); obtain ⟨hcc3, hff3⟩ := bcell hb3; have m3 : w.heap.size + 1 < w17.heap.size := (by omega); have b3 : Below w16.heap.size w16 w17 := (by first | exact bSt (Below.drew (Below.refl _ _)) leDr hb3 | exact bStA (Below.drew (Below.refl _ _)) leDr hb3); (try have n3 : w16.heap.size < w17.heap.size := szS0 hb3); (try have g3 := cellNew0 hb3))
            | (go_simp; go_at_call 28; refine (toGrammar_any _ ys _ (by first | exact slUp2 SY.out hb3 | exact slUp3 SY.out hb3 | exact slUp4 SY.out hb3) hn').mono ?_; rintro e w18 ⟨v4, rfl, own4, hb4⟩; have l4 : w17.heap.size ≤ w18.heap.size := (Nat.le_trans (by first | exact Nat.le_refl _ | exact leA) hb4.size); obtain ⟨hcc4, hff4⟩ := bcell hb4; have b4 : Below w16.heap.size w16 w18 := (by first | exact bSt b3 l3 hb4 | exact bStA b3 l3 hb4); (try have n4 : w17.heap.size < w18.heap.size := szS hb4); (try have n4' : w16.heap.size < w18.heap.size := (by omega)); (try have g4 := cellNew hb4); (try have g4 := cellUpA g3 n3 hb4))
            | (go_simp; go_at_call 34; refine (implJoin_any _ _ xs ys _ (by first | exact slUp5 own3 hb4 | exact slUp6 own3 hb4 | exact slUp7 own3 hb4) (by first | exact own4.sl | exact slUp8 own4) hn hn').mono ?_; rintro e w19 ⟨hb5, vW, ownW, rfl⟩; have l5 : w18.heap.size ≤ w19.heap.size := (Nat.le_trans (by first | exact Nat.le_refl _ | exact leA) hb5.size); obtain ⟨AW2, cW2, rfl, _⟩ := own_nil ownW; obtain ⟨hcc5, hff5⟩ := bcell hb5; have b5 : Below w16.heap.size w16 w19 := (by first | exact bSt b4 (Nat.le_trans l3 l4) hb5 | exact bStA b4 (Nat.le_trans l3 l4) hb5); (try have n5 : w18.heap.size < w19.heap.size := szS hb5); (try have n5' : w17.heap.size < w19.heap.size := (by omega)); (try have n5'' : w16.heap.size < w19.heap.size := (by omega)); (try have g5 := cellNew hb5); (try have g5 := cellUpA g4 n4 hb5); (try have g5 := cellUpA g4 n4' hb5)))
          all_goals
            go_wp2_with fail
            go_meet
            refine ⟨_, .slice AW2 (joinOut xs ys).length cW2, rfl, rfl, ?_, ?_, ?_, ?_, ?_⟩
            · first
                | (show w16.heap.size ≤ w16.heap.size; omega)
                | omega
            · simp; try omega
            · first
                | exact cellAl
                | exact cellSet g5
            · first
                | exact slA ownW.sl
                | exact slSet ownW (by omega)
                | exact slSet ownW (by simp)
                | exact slSet ownW (by simp; omega)
            · first
                | exact b5.alloc (by omega) _
                | exact b5.setCell (by show w16.heap.size ≤ w17.heap.size; omega) _
                | exact b5.setCell (by show w16.heap.size ≤ w18.heap.size; omega) _
                | exact b5.setCell (Nat.le_refl _) _
        case rest =>
          revert hcut
          generalize wc = w17
          intro hcut
          obtain ⟨bH, vH, rfl, rfl, hbH, hr17, r17, sH, hb17⟩ := hcut
          have SH := Lib.hid sH
          clear sH
          obtain ⟨AH, cH, rfl, _⟩ := SH.out
          have z17 : w16.heap.size ≤ w17.heap.size := hb17.size
          have a17 := cell_up a16 hb17 (by omega)
          have e17 := cell_up e16 hb17 (by omega)
          have k17 := cell_up k16 hb17 (by omega)
          have g17 := cell_up g16 hb17 (by omega)
          have Sx17 := Lib.hid (Sx16.out.below (hb17.mono (by omega)))
          have Sy17 := Lib.hid (Sy16.out.below (hb17.mono (by omega)))
          have Sw17 := Lib.hid (Sw16.out.below (hb17.mono (by omega)))
          have OM17 := Lib.hid (ownsRow_below OM16.out hb17)
          have B17 := Lib.hid (B16.out.trans (hb17.mono (by omega)))
          have ha17 : w.heap.size < w17.heap.size := by omega
          have he17 : w.heap.size + 1 < w17.heap.size := by omega
          have hk17 : bW < w17.heap.size := by omega
          have hg17 : w6.heap.size < w17.heap.size := by omega
          clear hb17 a16 e16 k16 g16
          go_wp2_with fail
          refine (eqGrammar_any _ _ _ _ SH.out (Sw17.out.le (by omega))).mono ?_
          rintro e w18 ⟨rfl, hb18⟩
          have z18 : w17.heap.size ≤ w18.heap.size := hb18.size
          have a18 := cell_up a17 hb18 (by omega)
          have e18 := cell_up e17 hb18 (by omega)
          have k18 := cell_up k17 hb18 (by omega)
          have g18 := cell_up g17 hb18 (by omega)
          have Sx18 := Lib.hid (Sx17.out.below (hb18.mono (by omega)))
          have Sy18 := Lib.hid (Sy17.out.below (hb18.mono (by omega)))
          have Sw18 := Lib.hid (Sw17.out.below (hb18.mono (by omega)))
          have OM18 := Lib.hid (ownsRow_below OM17.out hb18)
          have B18 := Lib.hid (B17.out.trans (hb18.mono (by omega)))
          have ha18 : w.heap.size < w18.heap.size := by omega
          have he18 : w.heap.size + 1 < w18.heap.size := by omega
          have hk18 : bW < w18.heap.size := by omega
          have hg18 : w6.heap.size < w18.heap.size := by omega
          clear hb18 a17 e17 k17 g17
          go_wp2_with fail
          refine (heldGrammar1 _ _ _ (OwnRules.sl OM18.out) (by omega)).mono ?_
          rintro e w19 ⟨rfl, hb19⟩
          have z19 : w18.heap.size ≤ w19.heap.size := hb19.size
          have a19 := cell_up a18 hb19 (by omega)
          have e19 := cell_up e18 hb19 (by omega)
          have k19 := cell_up k18 hb19 (by omega)
          have g19 := cell_up g18 hb19 (by omega)
          have Sx19 := Lib.hid (Sx18.out.below (hb19.mono (by omega)))
          have Sy19 := Lib.hid (Sy18.out.below (hb19.mono (by omega)))
          have Sw19 := Lib.hid (Sw18.out.below (hb19.mono (by omega)))
          have OM19 := Lib.hid (ownsRow_below OM18.out hb19)
          have B19 := Lib.hid (B18.out.trans (hb19.mono (by omega)))
          have ha19 : w.heap.size < w19.heap.size := by omega
          have he19 : w.heap.size + 1 < w19.heap.size := by omega
          have hk19 : bW < w19.heap.size := by omega
          have hg19 : w6.heap.size < w19.heap.size := by omega
          clear hb19 a18 e18 k18 g18
          go_wp2
          go_ret
          exact ⟨rfl, B19.out⟩
end Go.Proofs.Ythidgjdjijjkoaa
