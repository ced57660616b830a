import Derived.Test.YthidgjdjijjkoaaDepot2
namespace Go.Proofs.Ythidgjdjijjkoaa
open Go.RowKit

theorem depotOk_no1 {d : GDepot} (h : inR d.servers 1 4 = false) : depotOk d = false := by simp [depotOk, h]
theorem depotOk_no2 {d : GDepot} (h : inR d.names 1 4 = false) : depotOk d = false := by simp [depotOk, h]
theorem depotOk_no3 {d : GDepot} (h : ¬ d.words.length ≤ 8) : depotOk d = false := by simp [depotOk, h]
theorem depotOk_no4 {d : GDepot} (k : Nat) (hk : k < d.words.length) (h : gramOk (d.words.getD k []) = false) : depotOk d = false := by
  unfold depotOk; rw [any_true_of (p := gramOk) (d := []) k hk h]; simp
theorem depotOk_yes {d : GDepot} (h1 : inR d.servers 1 4 = true) (h2 : inR d.names 1 4 = true) (h3 : d.words.length ≤ 8) (h : ∀ k, k < d.words.length → gramOk (d.words.getD k []) = true) : depotOk d = true := by
  unfold depotOk; rw [any_false_of (p := gramOk) (d := []) h]; simp [h1, h2, h3]

set_option maxRecDepth 100000 in
theorem l08Ok_any (b o : Nat) (vW : Value) (a : GDepot) (w : World) (h0 : w.cell? ⟨b, o, none⟩ = some (.int .i64 a.servers)) (h1 : w.cell? ⟨b, o + 1, none⟩ = some (.int .i64 a.names)) (h2 : w.cell? ⟨b, o + 2, none⟩ = some vW) (hbl : b < w.heap.size)
    (hW : Sl (SliceE RuleE) w w.heap.size vW a.words) (hsm : SmallLs a.words) :
    Calls Try.prog 66 #[.pointer (some ⟨b, o, none⟩)] w fun e w' => e = .returned (.bool (depotOk a)) ∧ Below w.heap.size w w' := by
  have Hsm := Lib.hid hsm
  clear hsm
  obtain ⟨A, c, rfl, hc, hm, hrow⟩ := hW
  unfold maxLen at hm
  by_cases c1 : inR a.servers 1 4 = true
  · have C1 := Lib.hid c1
    clear c1
    by_cases c2 : inR a.names 1 4 = true
    · have C2 := Lib.hid c2
      clear c2
      by_cases c3 : a.words.length ≤ 8
      · have C3 := Lib.hid c3
        go_enter Try.func66, Try.ntmps66
        go_wp2_with fail
        refine (l00In_yes _ _ _ _ C1.out).mono ?_
        rintro e w' ⟨rfl, rfl⟩
        go_wp2_with fail
        refine (l00In_yes _ _ _ _ C2.out).mono ?_
        rintro e w' ⟨rfl, rfl⟩
        go_wp2_with fail
        go_loopw [3] (fun i wr => ∃ (k : Nat), k ≤ a.words.length ∧ i = .int .i64 k ∧ Below w.heap.size w wr ∧ Hid (∀ i, i < k → gramOk (a.words.getD i []) = true)) (fun i _ => a.words.length - (intOf i).toNat)
        case atStart => exact ⟨0, Nat.zero_le _, rfl, Below.refl _ _, fun i hi => absurd hi (by omega)⟩
        case round =>
          obtain ⟨k, hk, rfl, hb, HA⟩ := hrel
          have k2 := (hb.cell (p := ⟨b, o + 2, none⟩) hbl).trans h2
          by_cases hlt : k < a.words.length
          · obtain ⟨b1, o1, rfl, hbl1, hcell⟩ := hrow.sl hlt
            obtain ⟨x, hx⟩ : ∃ x, a.words[k]? = some x := ⟨_, List.getElem?_eq_getElem hlt⟩
            obtain ⟨u, hu, hsl⟩ := hcell k x hx
            have hc0 := (hb.cell (p := ⟨b1, o1 + k, none⟩) hbl1).trans hu
            have Hx : Hid (a.words.getD k [] = x) := by rw [Hid, List.getD_eq_getElem?_getD, hx]; rfl
            have Hsl := Lib.hid ((hsl.below hb).le (B' := wr.heap.size) hb.size)
            have Hs := Lib.hid (Hsm.out x (List.mem_of_getElem? hx))
            have hsz : w.heap.size ≤ wr.heap.size := hb.size
            clear hcell hx hu hsl
            go_wp2_with fail
            refine (l02Ok_any _ _ _ x _ hc0 (by omega) Hsl.out Hs.out).mono ?_
            rintro e w2 ⟨rfl, hb2⟩
            have B2 := Lib.hid (hb.trans (hb2.mono hsz))
            clear hb2
            by_cases c4 : gramOk x = true
            · have C4 := Lib.hid c4
              have g4 : (!gramOk x) = false := by simp [c4]
              clear c4
              go_wp2_with fail
              go_roundw
              case rel => exact ⟨k + 1, by omega, by go_num, B2.out, fun i hi => by
                rcases Nat.lt_or_ge i k with h | h
                · exact HA.out i h
                · obtain rfl : i = k := by omega
                  rw [Hx.out, C4.out]⟩
              case measure => simp [intOf]; omega
            · have c4' : gramOk x = false := by simpa using c4
              have C4 := Lib.hid c4'
              have g4 : (!gramOk x) = true := by simp [c4]
              clear c4 c4'
              go_wp2_with fail
              go_ret
              exact ⟨ret_bool (depotOk_no4 k hlt (by rw [Hx.out]; exact C4.out)).symm, B2.out⟩
          · go_wp2_with fail
            go_ret
            exact ⟨ret_bool (depotOk_yes C1.out C2.out C3.out fun i hi => HA.out i (by omega)).symm, hb⟩
      · have C3 := Lib.hid c3
        go_enter Try.func66, Try.ntmps66
        go_wp2_with fail
        refine (l00In_yes _ _ _ _ C1.out).mono ?_
        rintro e w' ⟨rfl, rfl⟩
        go_wp2_with fail
        refine (l00In_yes _ _ _ _ C2.out).mono ?_
        rintro e w' ⟨rfl, rfl⟩
        go_wp2_with fail
        go_ret
        exact ⟨ret_bool (depotOk_no3 C3.out).symm, Below.refl _ _⟩
    · have c2' : inR a.names 1 4 = false := by simpa using c2
      have C2 := Lib.hid c2'
      clear c2 c2'
      go_enter Try.func66, Try.ntmps66
      go_wp2_with fail
      refine (l00In_yes _ _ _ _ C1.out).mono ?_
      rintro e w' ⟨rfl, rfl⟩
      go_wp2_with fail
      refine (l00In_no _ _ _ _ C2.out).mono ?_
      rintro e w' ⟨rfl, rfl⟩
      go_wp2_with fail
      go_ret
      exact ⟨ret_bool (depotOk_no2 C2.out).symm, Below.refl _ _⟩
  · have c1' : inR a.servers 1 4 = false := by simpa using c1
    have C1 := Lib.hid c1'
    clear c1 c1'
    go_enter Try.func66, Try.ntmps66
    go_wp2_with fail
    refine (l00In_no _ _ _ _ C1.out).mono ?_
    rintro e w' ⟨rfl, rfl⟩
    go_wp2_with fail
    go_ret
    exact ⟨ret_bool (depotOk_no1 C1.out).symm, Below.refl _ _⟩

theorem specValidDepot_any (v : Value) (a : GDepot) (w : World) (h : DepotV w w.heap.size v a) (hsm : SmallLs a.words) :
    Calls Try.prog 22 #[v] w fun e w' => e = .returned (.bool (depotOk a)) ∧ Below w.heap.size w w' := by
  obtain ⟨vW, rfl, hW⟩ := h
  have HW := Lib.hid hW
  obtain ⟨AW, cW, rfl, _⟩ := hW
  go_enter Try.func22, Try.ntmps22
  go_wp2_with fail
  refine (l08Ok_any _ _ _ a _ (by simp [go_sem]) (by simp [go_sem]) (by simp [go_sem]) (by simp) ((HW.out.below ((Below.refl _ _).alloc (Nat.le_refl _) _)).le (by first | omega | (simp; done) | (simp; omega))) hsm).mono ?_
  rintro e w1 ⟨rfl, hb1⟩
  go_wp2_with fail
  go_ret
  exact ⟨rfl, ((Below.refl _ _).alloc (Nat.le_refl _) _).trans (hb1.mono (by simp))⟩

theorem depCl_any (v : Value) (xs : List GRule) (w : World) (h : Sl RuleE w w.heap.size v xs) (hn : xs.length ≤ 1099511627776) :
    Calls Try.prog 69 #[.agg #[v]] w fun e w' => e = .returned (.bool (!gramOk xs)) ∧ Below w.heap.size w w' := by
  have H := Lib.hid h
  obtain ⟨A, c, rfl, _⟩ := h
  go_enter Try.func69, Try.ntmps69
  go_wp2_with fail
  refine (ValidGrammar_any _ xs _ ((H.out.below ((Below.refl _ _).alloc (Nat.le_refl _) _)).le (by first | omega | (simp; done) | (simp; omega))) hn).mono ?_
  rintro e w1 ⟨rfl, hb1⟩
  go_wp2_with fail
  go_ret
  exact ⟨rfl, ((Below.refl _ _).alloc (Nat.le_refl _) _).trans (hb1.mono (by simp))⟩

set_option maxRecDepth 100000 in
theorem implValidDepot_any (v : Value) (a : GDepot) (w : World) (h : DepotV w w.heap.size v a) (hll : ∀ x ∈ a.words, x.length ≤ 1048576) :
    Calls Try.prog 24 #[v] w fun e w' => e = .returned (.bool (depotOk a)) ∧ Below w.heap.size w w' := by
  obtain ⟨vW, rfl, hW⟩ := h
  have HW := Lib.hid hW
  have Hll := Lib.hid hll
  clear hll
  obtain ⟨AW, cW, rfl, hc, hm, _⟩ := hW
  unfold maxLen at hm
  by_cases c1 : inR a.servers 1 4 = true
  · have C1 := Lib.hid c1
    clear c1
    by_cases c2 : inR a.names 1 4 = true
    · have C2 := Lib.hid c2
      clear c2
      by_cases c3 : a.words.length ≤ 8
      · have C3 := Lib.hid c3
        have g3 : decide (a.words.length ≤ 8) = true := by simpa using c3
        go_enter Try.func24, Try.ntmps24
        go_wp2_with fail
        refine (within_yes _ _ _ _ C1.out).mono ?_
        rintro e w' ⟨rfl, rfl⟩
        go_wp2_with fail
        refine (within_yes _ _ _ _ C2.out).mono ?_
        rintro e w' ⟨rfl, rfl⟩
        go_wp2_with fail
        refine (ContainsGrams_any _ a.words _ _ (fun g => !gramOk g) _ ((HW.out.below ((Below.refl _ _).alloc (Nat.le_refl _) _)).le (by first | omega | (simp; done) | (simp; omega))) (enters_of Try.func69 (by kernel_rfl) rfl) ?_).mono ?_
        · intro W u x hW hx hs
          exact depCl_any u x W hs (by have := Hll.out x hx; omega)
        · rintro e w2 ⟨rfl, hb2⟩
          go_wp2_with fail
          go_ret
          exact ⟨ret_bool (by unfold depotOk; rw [C1.out, C2.out]; simp [C3.out]), ((Below.refl _ _).alloc (Nat.le_refl _) _).trans (hb2.mono (by simp))⟩
      · have C3 := Lib.hid c3
        have g3 : decide (a.words.length ≤ 8) = false := by simpa using c3
        go_enter Try.func24, Try.ntmps24
        go_wp2_with fail
        refine (within_yes _ _ _ _ C1.out).mono ?_
        rintro e w' ⟨rfl, rfl⟩
        go_wp2_with fail
        refine (within_yes _ _ _ _ C2.out).mono ?_
        rintro e w' ⟨rfl, rfl⟩
        go_wp2_with fail
        go_ret
        exact ⟨ret_bool (depotOk_no3 C3.out).symm, (by repeat (first | exact Below.refl _ _ | (refine Below.alloc ?_ (by first | omega | (simp; done) | (simp; omega)) _) | refine below_drewN ?_ _ | refine Below.drew ?_))⟩
    · have c2' : inR a.names 1 4 = false := by simpa using c2
      have C2 := Lib.hid c2'
      clear c2 c2'
      go_enter Try.func24, Try.ntmps24
      go_wp2_with fail
      refine (within_yes _ _ _ _ C1.out).mono ?_
      rintro e w' ⟨rfl, rfl⟩
      go_wp2_with fail
      refine (within_no _ _ _ _ C2.out).mono ?_
      rintro e w' ⟨rfl, rfl⟩
      go_wp2_with fail
      go_ret
      exact ⟨ret_bool (depotOk_no2 C2.out).symm, (by repeat (first | exact Below.refl _ _ | (refine Below.alloc ?_ (by first | omega | (simp; done) | (simp; omega)) _) | refine below_drewN ?_ _ | refine Below.drew ?_))⟩
  · have c1' : inR a.servers 1 4 = false := by simpa using c1
    have C1 := Lib.hid c1'
    clear c1 c1'
    go_enter Try.func24, Try.ntmps24
    go_wp2_with fail
    refine (within_no _ _ _ _ C1.out).mono ?_
    rintro e w' ⟨rfl, rfl⟩
    go_wp2_with fail
    go_ret
    exact ⟨ret_bool (depotOk_no1 C1.out).symm, (by repeat (first | exact Below.refl _ _ | (refine Below.alloc ?_ (by first | omega | (simp; done) | (simp; omega)) _) | refine below_drewN ?_ _ | refine Below.drew ?_))⟩

/-- Three cells of a block. -/
def Box3 (w : World) (b : Nat) (c0 c1 c2 : Value) : Prop := w.cell? ⟨b, 0, none⟩ = some c0 ∧ w.cell? ⟨b, 1, none⟩ = some c1 ∧ w.cell? ⟨b, 2, none⟩ = some c2
theorem Box3.up {w w' : World} {b N : Nat} {c0 c1 c2 : Value} (h : Box3 w b c0 c1 c2) (hb : Below N w w') (hlt : b < N) : Box3 w' b c0 c1 c2 :=
  ⟨(hb.cell (p := ⟨b, 0, none⟩) hlt).trans h.1, (hb.cell (p := ⟨b, 1, none⟩) hlt).trans h.2.1, (hb.cell (p := ⟨b, 2, none⟩) hlt).trans h.2.2⟩
theorem Box3.new {w w' : World} {c0 c1 c2 : Value} {t : TypeId} (hb : Below (w.alloc (.cells #[c0, c1, c2] t)).heap.size (w.alloc (.cells #[c0, c1, c2] t)) w') : Box3 w' w.heap.size c0 c1 c2 :=
  Box3.up (w := w.alloc (.cells #[c0, c1, c2] t)) ⟨by simp [go_sem], by simp [go_sem], by simp [go_sem]⟩ hb (by simp)
theorem keep6 {wr W W2 : World} {p q : Nat} {a0 a1 a2 b0 b1 b2 : Value}
    (h : Below wr.heap.size wr W ∧ W.cell? ⟨p, 0, none⟩ = some a0 ∧ W.cell? ⟨p, 1, none⟩ = some a1 ∧ W.cell? ⟨p, 2, none⟩ = some a2 ∧ W.cell? ⟨q, 0, none⟩ = some b0 ∧ W.cell? ⟨q, 1, none⟩ = some b1 ∧ W.cell? ⟨q, 2, none⟩ = some b2)
    (h2 : Below W.heap.size W W2) (hp : p < wr.heap.size) (hq : q < wr.heap.size) :
    Below wr.heap.size wr W2 ∧ W2.cell? ⟨p, 0, none⟩ = some a0 ∧ W2.cell? ⟨p, 1, none⟩ = some a1 ∧ W2.cell? ⟨p, 2, none⟩ = some a2 ∧ W2.cell? ⟨q, 0, none⟩ = some b0 ∧ W2.cell? ⟨q, 1, none⟩ = some b1 ∧ W2.cell? ⟨q, 2, none⟩ = some b2 := by
  obtain ⟨h1, x0, x1, x2, y0, y1, y2⟩ := h
  have A := Box3.up ⟨x0, x1, x2⟩ h2 (Nat.lt_of_lt_of_le hp h1.size)
  have B := Box3.up ⟨y0, y1, y2⟩ h2 (Nat.lt_of_lt_of_le hq h1.size)
  exact ⟨h1.trans (h2.mono h1.size), A.1, A.2.1, A.2.2, B.1, B.2.1, B.2.2⟩

set_option maxRecDepth 100000 in
set_option maxHeartbeats 2000000 in
theorem lawValidDepot_any (v : Value) (a : GDepot) (w : World) (h : DepotV w w.heap.size v a) (hsm : SmallLs a.words) :
    Calls Try.prog 5 #[v] w fun e w' => e = .returned (.bool true) ∧ Below w.heap.size w w' := by
  have h1 := fun o => (h.below ((Below.refl w.heap.size w).alloc (Nat.le_refl _) o)).le (B' := (w.alloc o).heap.size) (by simp)
  have H1 := Lib.hid h1
  obtain ⟨vW, rfl, hW⟩ := h
  obtain ⟨AW, cW, rfl, _⟩ := hW
  clear h1
  go_enter Try.func5, Try.ntmps5
  go_wp2_with fail
  refine (szDepot_any _ a _ _ (H1.out _) hsm (by omega)).mono ?_
  rintro e w1 ⟨rfl, hb1⟩
  have z1 : w.heap.size < w1.heap.size := Nat.lt_of_lt_of_le (by simp) hb1.size
  have A1 := Lib.hid (Box3.new hb1)
  have B1 := Lib.hid (((Below.refl w.heap.size w).alloc (Nat.le_refl _) _).trans (hb1.mono (by simp)))
  have S1 := Lib.hid ((H1.out _).up hb1)
  clear hb1
  by_cases hneg : szGs a.words 1048576 < 0
  · go_wp2_with fail
    go_ret
    exact ⟨rfl, B1.out⟩
  · obtain ⟨n1, n3⟩ := szGs_le (xs := a.words) (by omega)
    have N3 := Lib.hid n3
    clear n3
    obtain ⟨a0, a1, a2⟩ := A1.out
    go_wp2_with fail
    refine (toDepot_any _ a _ S1.out n1 N3.out).mono ?_
    rintro e w2 ⟨v2, rfl, hv2, hb2⟩
    have z2 : w.heap.size < w2.heap.size := by have := hb2.size; omega
    have A2 := Lib.hid (Box3.up A1.out hb2 z1)
    have S2 := Lib.hid (S1.out.up hb2)
    have B2 := Lib.hid (B1.out.trans (hb2.mono (by omega)))
    have V2 := Lib.hid hv2
    clear hb2 a0 a1 a2 hv2
    go_wp2_with fail
    refine (specValidDepot_any _ a _ V2.out hsm).mono ?_
    rintro e w3 ⟨rfl, hb3⟩
    have z3 : w.heap.size < w3.heap.size := by have := hb3.size; omega
    have A3 := Lib.hid (Box3.up A2.out hb3 z2)
    have S3 := Lib.hid (S2.out.up hb3)
    have B3 := Lib.hid (B2.out.trans (hb3.mono (by omega)))
    clear hb3
    obtain ⟨a0, a1, a2⟩ := A3.out
    go_wp2_with fail
    refine (toDepot_any _ a _ S3.out n1 N3.out).mono ?_
    rintro e w4 ⟨v4, rfl, hv4, hb4⟩
    have z4 : w.heap.size < w4.heap.size := by have := hb4.size; omega
    have A4 := Lib.hid (Box3.up A3.out hb4 z3)
    have S4 := Lib.hid (S3.out.up hb4)
    have B4 := Lib.hid (B3.out.trans (hb4.mono (by omega)))
    have V4 := Lib.hid hv4
    obtain ⟨vW4, rfl, ⟨AW4, cW4, rfl, _⟩⟩ := hv4
    clear hb4 a0 a1 a2
    go_wp2_with fail
    refine (implValidDepot_any _ a _ ((V4.out.below ((Below.refl _ _).alloc (Nat.le_refl _) _)).le (by first | omega | (simp; done) | (simp; omega))) N3.out).mono ?_
    rintro e w5 ⟨rfl, hb5⟩
    have z5 : w.heap.size < w5.heap.size := Nat.lt_of_lt_of_le (Nat.lt_trans z4 (by simp)) hb5.size
    have y5 : w4.heap.size < w5.heap.size := Nat.lt_of_lt_of_le (by simp) hb5.size
    have X5 := Box3.new hb5
    have b45 := ((Below.refl w4.heap.size w4).alloc (Nat.le_refl _) _).trans (hb5.mono (by simp))
    have A5 := Box3.up A4.out b45 z4
    have S5 := Lib.hid (S4.out.up b45)
    have V5 := Lib.hid (V4.out.up b45)
    have B5 := Lib.hid (B4.out.trans (b45.mono (by omega)))
    clear hb5 b45
    obtain ⟨a0, a1, a2⟩ := A5
    obtain ⟨x0, x1, x2⟩ := X5
    have q1 : (depotOk a != depotOk a) = false := by simp
    go_wp2_with fail
    clear q1
    go_region_held3 (fun w' => Below w5.heap.size w5 w' ∧ w'.cell? ⟨w4.heap.size, 0, none⟩ = some (.int .i64 a.servers) ∧ w'.cell? ⟨w4.heap.size, 1, none⟩ = some (.int .i64 a.names) ∧ w'.cell? ⟨w4.heap.size, 2, none⟩ = some (.slice AW4 a.words.length cW4) ∧ w'.cell? ⟨w.heap.size, 0, none⟩ = some (.int .i64 a.servers) ∧ w'.cell? ⟨w.heap.size, 1, none⟩ = some (.int .i64 a.names) ∧ w'.cell? ⟨w.heap.size, 2, none⟩ = some (.slice AW a.words.length cW))
      (first | exact ⟨(Below.refl _ _).drew, x0, x1, x2, a0, a1, a2⟩ | (exact keep6 (by assumption) hb6 y5 z5) | (exact keep6 (by assumption) hb7 y5 z5))
      (first
        | (go_at_call 23; refine (toDepot_any _ a _ (S5.out.up (Below.drew (Below.refl _ _))) n1 N3.out).mono ?_; rintro e w6 ⟨v6, rfl, hv6, hb6⟩)
        | (go_at_call 25; refine (eqDepot_any _ _ a _ ((V5.out.up (Below.drew (Below.refl _ _))).up hb6) hv6).mono ?_; rintro e w7 ⟨rfl, hb7⟩))
    have B6 := Lib.hid (B5.out.trans ((((Below.drew (Below.refl w5.heap.size w5)).trans hb6).trans (hb7.mono hb6.size)).mono (by omega)))
    go_wp2_with fail
    go_ret
    exact ⟨rfl, B6.out⟩
end Go.Proofs.Ythidgjdjijjkoaa
