import Derived.Test.YthidgjdjijjkoaaAutoR
namespace Go.Proofs.Ythidgjdjijjkoaa
open Go.RowKit

theorem l04Letter_any (c : UInt8) (w : World) (h1 : 97 ≤ c.toNat) (h2 : c.toNat ≤ 100) :
    Calls Try.prog 110 #[.int .u8 c.toNat] w fun e w' => e = .returned (.int .i64 ((c.toNat - 97 : Nat) : Int)) ∧ w = w' := by
  obtain ⟨d, hd⟩ : ∃ d, c.toNat = 97 + d := ⟨c.toNat - 97, by omega⟩
  have hd3 : d ≤ 3 := by omega
  rw [hd]
  clear hd h1 h2
  go_enter Try.func110, Try.ntmps110
  go_wp2_with fail
  go_ret
  exact ⟨ret_int (by omega), rfl⟩

set_option maxRecDepth 100000 in
theorem l04Read_any (v : Value) (a : GAuto) (s : Nat) (l : ByteArray) (w : World) (h : Sl (SliceE IntE) w w.heap.size v a.next) (ha : autoOk a = true) (hl : wordOk l = true) (hsz : l.size ≤ maxLen) (hs : s < a.next.length) :
    Calls Try.prog 56 #[v, .int .i64 s, .string l] w fun e w' => e = .returned (.int .i64 (readW a.next s l.data.toList)) ∧ ∃ n, w' = w.drewN n := by
  unfold maxLen at hsz
  have Ha := Lib.hid ha
  have Hl := Lib.hid hl
  clear ha hl
  obtain ⟨A, c, rfl, hc', hm, hrow⟩ := h
  obtain ⟨g1, g2, g3, g4⟩ := autoOk_get Ha.out
  have G3 := Lib.hid g3
  have G4 := Lib.hid g4
  clear g3 g4
  go_enter Try.func56, Try.ntmps56
  go_wp2_with fail
  go_loopw [1, 7] (fun q i wr => ∃ (k t : Nat), k ≤ l.size ∧ i = .int .i64 k ∧ q = .int .i64 t ∧ t < a.next.length ∧ Hid (readW a.next s (l.data.toList.take k) = t) ∧ ∃ m, wr = w.drewN m) (fun _ i _ => l.size - (intOf i).toNat)
  case atStart => exact ⟨0, s, Nat.zero_le _, rfl, rfl, hs, rfl, 0, rfl⟩
  case round =>
    obtain ⟨k, t, hk, rfl, rfl, ht, HR, m, rfl⟩ := hrel
    by_cases hlt : k < l.size
    · obtain ⟨hd1, hd2⟩ := wordOk_at Hl.out hlt
      obtain ⟨d, hd⟩ : ∃ d, l[k].toNat = 97 + d := ⟨l[k].toNat - 97, by omega⟩
      have hd4 : d < 4 := by omega
      obtain ⟨b, o, b', o', c', rfl, k1, k2⟩ := row_at hrow ht (G4.out t ht).1 hd4
      have hti : (t : Int) < (a.next.length : Int) := by omega
      have hdi : (d : Int) < 4 := by omega
      have hki : (k : Int) < (l.size : Int) := by omega
      have hst : Hid ((a.next.getD t []).getD d 0 = ((stepW a.next t d : Nat) : Int)) := by
        have := ((G4.out t ht).2 d hd4).1
        unfold stepW Hid; omega
      have hsl := stepW_lt Ha.out ht hd4
      rw [hst.out] at k2
      have Hst' : Hid (∀ x, stepW a.next t d = x → readW a.next s (l.data.toList.take (k + 1)) = x) := by
        rintro x rfl
        rw [readW_step hlt, HR.out, hd]; congr 1; omega
      obtain ⟨t', ht'⟩ : ∃ t', stepW a.next t d = t' := ⟨_, rfl⟩
      rw [ht'] at k2 hsl
      have Hend := Lib.hid (Hst'.out t' ht')
      have hlet : ∀ W, Calls Try.prog 110 #[.int .u8 l[k].toNat] W fun e w' => e = .returned (.int .i64 (d : Int)) ∧ W = w' := fun W => by
        have := l04Letter_any l[k] W (by omega) (by omega)
        rwa [show l[k].toNat - 97 = d by omega] at this
      have Hlet := Lib.hid hlet
      clear hst ht' hlet hd hd1 hd2
      go_wp2_with fail
      go_quiet ((go_at_call 110; first | exact quiet_add_left (Hlet.out _) | exact quiet_left (Hlet.out _)))
      go_wp2
      go_roundw
      case rel => exact ⟨k + 1, t', by omega, by go_num, rfl, hsl, Hend.out, _, rfl⟩
      case measure => simp [intOf]; omega
    · have hfin : readW a.next s l.data.toList = t := by
        have := HR.out
        rwa [List.take_of_length_le (by simpa using (by omega : l.size ≤ k))] at this
      have Hfin := Lib.hid hfin
      clear hfin
      go_wp2_with fail
      go_ret
      exact ⟨by rw [Hfin.out]; rfl, _, rfl⟩

theorem drewN_below {w w' : World} (h : ∃ n, w' = w.drewN n) : Below w.heap.size w w' := by
  obtain ⟨n, rfl⟩ := h; exact below_drewN (Below.refl _ _) n

set_option maxRecDepth 100000 in
theorem specRunWord_any (v : Value) (a : GAuto) (s : Int) (l : ByteArray) (w : World) (h : AutoV w w.heap.size v a) (hsz : l.size ≤ maxLen) :
    Calls Try.prog 17 #[v, .int .i64 s, .string l] w fun e w' => e = .returned (.tuple #[.int .i64 (runWV a s l), .int .i64 (runWC a s l)]) ∧ Below w.heap.size w w' := by
  obtain ⟨vF, vN, rfl, hF, hN⟩ := h
  have hB := fun o => (Below.refl w.heap.size w).alloc (Nat.le_refl _) o
  have HB := Lib.hid hB
  have HF := Lib.hid hF
  have HN := Lib.hid hN
  clear hB
  obtain ⟨AF, cF, rfl, _⟩ := hF
  obtain ⟨AN, cN, rfl, _⟩ := hN
  go_enter Try.func17, Try.ntmps17
  go_wp2_with fail
  refine (l04Ok_any _ _ _ _ a _ (by simp [go_sem]) (by simp [go_sem]) (by simp [go_sem]) (by simp [go_sem]) ((HF.out.below (HB.out _)).le (by first | omega | (simp; done) | (simp; omega))) ((HN.out.below (HB.out _)).le (by first | omega | (simp; done) | (simp; omega)))).mono ?_
  rintro e w1 ⟨rfl, hw1⟩
  have hb1 := drewN_below hw1
  clear hw1
  have hcb : w1.cell? ⟨w.heap.size, 0, none⟩ = some (.int .i64 a.states) ∧ w1.cell? ⟨w.heap.size, 3, none⟩ = some (.slice AN a.next.length cN) :=
    ⟨(hb1.cell (p := ⟨w.heap.size, 0, none⟩) (by simp)).trans (by simp [go_sem]), (hb1.cell (p := ⟨w.heap.size, 3, none⟩) (by simp)).trans (by simp [go_sem])⟩
  obtain ⟨b0, b3⟩ := hcb
  have hsz1 : w.heap.size < w1.heap.size := Nat.lt_of_lt_of_le (by simp) hb1.size
  have B1 := Lib.hid ((HB.out _).trans (hb1.mono (by simp)))
  clear hb1
  by_cases c1 : autoOk a = true
  · have C1 := Lib.hid c1
    have g1 : (!autoOk a) = false := by simp [c1]
    obtain ⟨k1, k2, k3, _⟩ := autoOk_get c1
    have K3 := Lib.hid k3
    clear c1 k3
    go_wp2_with fail
    refine (l01Ok_any _ _ hsz).mono ?_
    rintro e w2 ⟨rfl, rfl⟩
    by_cases c2 : wordOk l = true
    · have C2 := Lib.hid c2
      have g2 : (!wordOk l) = false := by simp [c2]
      clear c2
      by_cases c3 : inR s 0 (a.states - 1) = true
      · have C3 := Lib.hid c3
        have hs0 : 0 ≤ s ∧ s ≤ a.states - 1 := by simpa [inR] using c3
        have hs1 : s.toNat < a.next.length := by have := K3.out; omega
        obtain ⟨t, rfl⟩ := Int.eq_ofNat_of_zero_le hs0.1
        clear c3 hs0
        go_wp2_with fail
        refine (l00In_yes _ _ _ _ C3.out).mono ?_
        rintro e w2 ⟨rfl, rfl⟩
        go_wp2_with fail
        refine (l04Read_any _ a t l _ ((HN.out.below B1.out).le (by omega)) C1.out C2.out hsz (by simpa using hs1)).mono ?_
        rintro e w3 ⟨rfl, hw3⟩
        have hb3 := drewN_below hw3
        clear hw3
        go_wp2_with fail
        go_ret2
        exact ⟨by simp [runWV, runWC, C1.out, C2.out, C3.out], B1.out.trans (hb3.mono B1.out.size)⟩
      · have c3' : inR s 0 (a.states - 1) = false := by simpa using c3
        have C3 := Lib.hid c3'
        clear c3 c3'
        go_wp2_with fail
        refine (l00In_no _ _ _ _ C3.out).mono ?_
        rintro e w2 ⟨rfl, rfl⟩
        go_wp2_with fail
        go_ret2
        exact ⟨by simp [runWV, runWC, C1.out, C2.out, C3.out], B1.out⟩
    · have c2' : wordOk l = false := by simpa using c2
      have C2 := Lib.hid c2'
      have g2 : (!wordOk l) = true := by simp [c2]
      clear c2 c2'
      go_wp2_with fail
      go_ret2
      exact ⟨by simp [runWV, runWC, C1.out, C2.out], B1.out⟩
  · have c1' : autoOk a = false := by simpa using c1
    have C1 := Lib.hid c1'
    have g1 : (!autoOk a) = true := by simp [c1]
    clear c1 c1'
    go_wp2_with fail
    go_ret2
    exact ⟨by simp [runWV, runWC, C1.out], B1.out⟩

theorem eqAuto_any (v v' : Value) (a : GAuto) (w : World) (h : AutoV w w.heap.size v a) (h' : AutoV w w.heap.size v' a) :
    Calls Try.prog 20 #[v, v'] w fun e w' => e = .returned (.bool true) ∧ Below w.heap.size w w' := by
  obtain ⟨vF, vN, rfl, hF, hN⟩ := h
  obtain ⟨vF', vN', rfl, hF', hN'⟩ := h'
  have hB := fun o o' => ((Below.refl w.heap.size w).alloc (Nat.le_refl _) o).alloc (by simp) o'
  have HB := Lib.hid hB
  have HF := Lib.hid hF
  have HN := Lib.hid hN
  have HF' := Lib.hid hF'
  have HN' := Lib.hid hN'
  clear hB
  obtain ⟨AF, cF, rfl, _⟩ := hF
  obtain ⟨AN, cN, rfl, _⟩ := hN
  obtain ⟨AF', cF', rfl, _⟩ := hF'
  obtain ⟨AN', cN', rfl, _⟩ := hN'
  have q1 : (a.states != a.states) = false := by simp
  have q2 : (a.start != a.start) = false := by simp
  go_enter Try.func20, Try.ntmps20
  go_wp2_with fail
  refine (eqInt64S_any _ _ a.finals _ ((HF.out.below (HB.out _ _)).le (by first | omega | (simp; done) | (simp; omega))) ((HF'.out.below (HB.out _ _)).le (by first | omega | (simp; done) | (simp; omega)))).mono ?_
  rintro e w1 ⟨rfl, hw1⟩
  have hb1 := drewN_below hw1
  clear hw1
  obtain ⟨hc1, hf1⟩ := bcell hb1
  have hz1 : w.heap.size + 2 ≤ w1.heap.size := by have := hb1.size; simp at this; omega
  have B1 := Lib.hid ((HB.out _ _).trans (hb1.mono (by simp; omega)))
  clear hb1
  go_wp2_with fail
  refine (eqInt64SS_any _ _ a.next _ ((HN.out.below B1.out).le (by omega)) ((HN'.out.below B1.out).le (by omega))).mono ?_
  rintro e w2 ⟨rfl, hw2⟩
  have hb2 := drewN_below hw2
  go_wp2_with fail
  go_ret
  exact ⟨rfl, B1.out.trans (hb2.mono B1.out.size)⟩

/-- Four cells of a block. -/
def Box4 (w : World) (b : Nat) (c0 c1 c2 c3 : Value) : Prop := w.cell? ⟨b, 0, none⟩ = some c0 ∧ w.cell? ⟨b, 1, none⟩ = some c1 ∧ w.cell? ⟨b, 2, none⟩ = some c2 ∧ w.cell? ⟨b, 3, none⟩ = some c3
theorem Box4.up {w w' : World} {b N : Nat} {c0 c1 c2 c3 : Value} (h : Box4 w b c0 c1 c2 c3) (hb : Below N w w') (hlt : b < N) : Box4 w' b c0 c1 c2 c3 :=
  ⟨(hb.cell (p := ⟨b, 0, none⟩) hlt).trans h.1, (hb.cell (p := ⟨b, 1, none⟩) hlt).trans h.2.1, (hb.cell (p := ⟨b, 2, none⟩) hlt).trans h.2.2.1, (hb.cell (p := ⟨b, 3, none⟩) hlt).trans h.2.2.2⟩
theorem Box4.new {w w' : World} {c0 c1 c2 c3 : Value} {t : TypeId} (hb : Below (w.alloc (.cells #[c0, c1, c2, c3] t)).heap.size (w.alloc (.cells #[c0, c1, c2, c3] t)) w') : Box4 w' w.heap.size c0 c1 c2 c3 :=
  Box4.up (w := w.alloc (.cells #[c0, c1, c2, c3] t)) ⟨by simp [go_sem], by simp [go_sem], by simp [go_sem], by simp [go_sem]⟩ hb (by simp)
theorem keep8 {wr W W2 : World} {p q : Nat} {a0 a1 a2 a3 b0 b1 b2 b3 : Value}
    (h : Below wr.heap.size wr W ∧ W.cell? ⟨p, 0, none⟩ = some a0 ∧ W.cell? ⟨p, 1, none⟩ = some a1 ∧ W.cell? ⟨p, 2, none⟩ = some a2 ∧ W.cell? ⟨p, 3, none⟩ = some a3 ∧ W.cell? ⟨q, 0, none⟩ = some b0 ∧ W.cell? ⟨q, 1, none⟩ = some b1 ∧ W.cell? ⟨q, 2, none⟩ = some b2 ∧ W.cell? ⟨q, 3, none⟩ = some b3)
    (h2 : Below W.heap.size W W2) (hp : p < wr.heap.size) (hq : q < wr.heap.size) :
    Below wr.heap.size wr W2 ∧ W2.cell? ⟨p, 0, none⟩ = some a0 ∧ W2.cell? ⟨p, 1, none⟩ = some a1 ∧ W2.cell? ⟨p, 2, none⟩ = some a2 ∧ W2.cell? ⟨p, 3, none⟩ = some a3 ∧ W2.cell? ⟨q, 0, none⟩ = some b0 ∧ W2.cell? ⟨q, 1, none⟩ = some b1 ∧ W2.cell? ⟨q, 2, none⟩ = some b2 ∧ W2.cell? ⟨q, 3, none⟩ = some b3 := by
  obtain ⟨h1, x0, x1, x2, x3, y0, y1, y2, y3⟩ := h
  have A := Box4.up ⟨x0, x1, x2, x3⟩ h2 (Nat.lt_of_lt_of_le hp h1.size)
  have B := Box4.up ⟨y0, y1, y2, y3⟩ h2 (Nat.lt_of_lt_of_le hq h1.size)
  exact ⟨h1.trans (h2.mono h1.size), A.1, A.2.1, A.2.2.1, A.2.2.2, B.1, B.2.1, B.2.2.1, B.2.2.2⟩

end Go.Proofs.Ythidgjdjijjkoaa
