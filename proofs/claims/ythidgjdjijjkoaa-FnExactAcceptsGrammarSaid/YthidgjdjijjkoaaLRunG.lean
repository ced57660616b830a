import Derived.Test.YthidgjdjijjkoaaRide3
import Derived.Test.YthidgjdjijjkoaaLRunW
import Derived.Test.YthidgjdjijjkoaaLTurn
import Derived.Test.YthidgjdjijjkoaaRules2
import Derived.Test.YthidgjdjijjkoaaLJoin
namespace Go.Proofs.Ythidgjdjijjkoaa
open Go.RowKit

theorem szA_le2 {a : GAuto} (h : 0 ≤ szA a 1048576) : szA a 1048576 ≤ 1048576 := by
  unfold szA at *
  split at h
  · omega
  · rename_i h1
    split at h
    · omega
    · rename_i h2
      rw [if_neg h1, if_neg h2]
      have h3 : szN a.finals.length 1048576 ≤ 1048576 := by unfold szN; split <;> omega
      have := szII_le a.next (szN a.finals.length 1048576) (by omega)
      omega
theorem keep5 {wr W W2 : World} {p q : Nat} {a0 a1 a2 a3 b0 : Value}
    (h : Below wr.heap.size wr W ∧ W.cell? ⟨p, 0, none⟩ = some a0 ∧ W.cell? ⟨p, 1, none⟩ = some a1 ∧ W.cell? ⟨p, 2, none⟩ = some a2 ∧ W.cell? ⟨p, 3, none⟩ = some a3 ∧ W.cell? ⟨q, 0, none⟩ = some b0)
    (h2 : Below W.heap.size W W2) (hp : p < wr.heap.size) (hq : q < wr.heap.size) :
    Below wr.heap.size wr W2 ∧ W2.cell? ⟨p, 0, none⟩ = some a0 ∧ W2.cell? ⟨p, 1, none⟩ = some a1 ∧ W2.cell? ⟨p, 2, none⟩ = some a2 ∧ W2.cell? ⟨p, 3, none⟩ = some a3 ∧ W2.cell? ⟨q, 0, none⟩ = some b0 := by
  obtain ⟨h1, x0, x1, x2, x3, y0⟩ := h
  have A := Box4.up ⟨x0, x1, x2, x3⟩ h2 (Nat.lt_of_lt_of_le hp h1.size)
  exact ⟨h1.trans (h2.mono h1.size), A.1, A.2.1, A.2.2.1, A.2.2.2, (h2.cell (p := ⟨q, 0, none⟩) (Nat.lt_of_lt_of_le hq h1.size)).trans y0⟩
theorem keep2 {wr W W2 : World} {p q : Nat} {a0 b0 : Value}
    (h : Below wr.heap.size wr W ∧ W.cell? ⟨p, 0, none⟩ = some a0 ∧ W.cell? ⟨q, 0, none⟩ = some b0)
    (h2 : Below W.heap.size W W2) (hp : p < wr.heap.size) (hq : q < wr.heap.size) :
    Below wr.heap.size wr W2 ∧ W2.cell? ⟨p, 0, none⟩ = some a0 ∧ W2.cell? ⟨q, 0, none⟩ = some b0 := by
  obtain ⟨h1, x0, y0⟩ := h
  exact ⟨h1.trans (h2.mono h1.size), (h2.cell (p := ⟨p, 0, none⟩) (Nat.lt_of_lt_of_le hp h1.size)).trans x0, (h2.cell (p := ⟨q, 0, none⟩) (Nat.lt_of_lt_of_le hq h1.size)).trans y0⟩
theorem autoA {w : World} {v : Value} {a : GAuto} {o : Obj} (h : AutoV w w.heap.size v a) : AutoV (w.alloc o) (w.alloc o).heap.size v a := (h.below ((Below.refl _ _).alloc (Nat.le_refl _) o)).le (by simp)
theorem drewB {w : World} : Below w.heap.size w w.drew := Below.drew (Below.refl _ _)

set_option maxRecDepth 100000 in
set_option maxHeartbeats 4000000 in
theorem lawRunGrammar_any (v vR : Value) (a : GAuto) (s : Int) (xs : List GRule) (w : World) (h : AutoV w w.heap.size v a) (hR : Sl RuleE w w.heap.size vR xs) (hsm : SmallL xs) :
    Calls Try.prog 8 #[v, .int .i64 s, .agg #[vR]] w fun e w' => e = .returned (.bool true) ∧ Below w.heap.size w w' := by
  have hB := fun o o' => ((Below.refl w.heap.size w).alloc (Nat.le_refl _) o).alloc (by simp) o'
  have h1 := fun o o' => (h.below (hB o o')).le (B' := ((w.alloc o).alloc o').heap.size) (by simp; omega)
  have h2 := fun o o' => (hR.below (hB o o')).le (B' := ((w.alloc o).alloc o').heap.size) (by simp; omega)
  have H1 := Lib.hid h1
  have H2 := Lib.hid h2
  have HB := Lib.hid hB
  obtain ⟨vF, vN, rfl, hF, hN⟩ := h
  obtain ⟨AF, cF, rfl, _⟩ := hF
  obtain ⟨AN, cN, rfl, _⟩ := hN
  obtain ⟨AR, cR, rfl, _⟩ := hR
  clear h1 h2 hB
  go_enter Try.func8, Try.ntmps8
  go_wp2_with fail
  refine (szAuto_any _ a _ _ (H1.out _ _) (by omega)).mono ?_
  rintro e w1 ⟨rfl, hb1⟩
  have z1 : w.heap.size + 1 < w1.heap.size := Nat.lt_of_lt_of_le (by simp) hb1.size
  have z0 : w.heap.size < w1.heap.size := by omega
  have A1 := Lib.hid (Box4.up (w := (w.alloc (Obj.cells #[.int .i64 a.states, .int .i64 a.start, .slice AF a.finals.length cF, .slice AN a.next.length cN] 31)).alloc (Obj.cells #[.slice AR xs.length cR] 52)) (b := w.heap.size) (c0 := .int .i64 a.states) (c1 := .int .i64 a.start) (c2 := .slice AF a.finals.length cF) (c3 := .slice AN a.next.length cN) ⟨by simp [go_sem], by simp [go_sem], by simp [go_sem], by simp [go_sem]⟩ hb1 (by simp; omega))
  have y1 : w1.cell? ⟨w.heap.size + 1, 0, none⟩ = some (.slice AR xs.length cR) := (hb1.cell (p := ⟨w.heap.size + 1, 0, none⟩) (by simp)).trans (by simp [go_sem])
  have B1 := Lib.hid ((HB.out _ _).trans (hb1.mono (by simp; omega)))
  have S1 := Lib.hid ((H1.out _ _).up hb1)
  have T1 := Lib.hid ((H2.out _ _).up hb1)
  clear hb1
  by_cases hneg : szA a 1048576 < 0
  · have H := Lib.hid hneg
    go_wp2_with fail
    go_ret
    exact ⟨rfl, B1.out⟩
  · obtain ⟨n1, n2, n3⟩ := szA_le (a := a) (by omega)
    have n4 := szA_le2 (a := a) (by omega)
    have N3 := Lib.hid n3
    clear n3
    go_wp2_with fail
    refine (szGrammar_any _ _ _ _ T1.out hsm (by omega)).mono ?_
    rintro e w2 ⟨rfl, hb2⟩
    have z2 : w.heap.size + 1 < w2.heap.size := by have := hb2.size; omega
    have z20 : w.heap.size < w2.heap.size := by omega
    have A2 := Lib.hid (A1.out.up hb2 z0)
    have y2 := (hb2.cell (p := ⟨w.heap.size + 1, 0, none⟩) z1).trans y1
    have S2 := Lib.hid (S1.out.up hb2)
    have T2 := Lib.hid (T1.out.up hb2)
    have B2 := Lib.hid (B1.out.trans (hb2.mono (by omega)))
    clear hb2 y1
    by_cases hneg' : szRs xs (szA a 1048576) < 0
    · have H := Lib.hid hneg'
      rw [if_pos hneg']
      clear hneg'
      go_wp2_with fail
      go_ret
      exact ⟨rfl, B2.out⟩
    · rw [if_neg hneg']
      obtain ⟨hle, hlen⟩ := szRs_le xs (szA a 1048576) (by omega)
      have hn : xs.length ≤ 1048576 := by omega
      have hp : szRs xs (szA a 1048576) ≥ 0 := by omega
      clear hle hlen n4
      obtain ⟨a0, a1, a2, a3⟩ := A2.out
      have KB := And.intro (drewB (w := w2)) (And.intro (show w2.drew.cell? ⟨w.heap.size, 0, none⟩ = _ from a0) (And.intro (show w2.drew.cell? ⟨w.heap.size, 1, none⟩ = _ from a1) (And.intro (show w2.drew.cell? ⟨w.heap.size, 2, none⟩ = _ from a2) (And.intro (show w2.drew.cell? ⟨w.heap.size, 3, none⟩ = _ from a3) (show w2.drew.cell? ⟨w.heap.size + 1, 0, none⟩ = _ from y2)))))
      go_wp2_with fail
      go_region_held3 (fun w' => Below w2.heap.size w2 w' ∧ w'.cell? ⟨w.heap.size, 0, none⟩ = some (.int .i64 a.states) ∧ w'.cell? ⟨w.heap.size, 1, none⟩ = some (.int .i64 a.start) ∧ w'.cell? ⟨w.heap.size, 2, none⟩ = some (.slice AF a.finals.length cF) ∧ w'.cell? ⟨w.heap.size, 3, none⟩ = some (.slice AN a.next.length cN) ∧ w'.cell? ⟨w.heap.size + 1, 0, none⟩ = some (.slice AR xs.length cR))
        (first | (with_reducible exact KB) | (with_reducible exact keep5 KB hb3 z20 z2) | (with_reducible exact keep5 (keep5 KB hb3 z20 z2) hb3' z20 z2) | (with_reducible exact keep5 (keep5 (keep5 KB hb3 z20 z2) hb3' z20 z2) hb3'' z20 z2))
        (first
          | (go_at_call 18; refine (toAuto_any _ a _ (S2.out.up drewB) n1 n2 N3.out).mono ?_; rintro e w3 ⟨v3, rfl, hv3, hb3⟩)
          | (go_at_call 28; refine (toGrammar_any _ xs _ ((T2.out.up drewB).up hb3) hn).mono ?_; rintro e w3' ⟨u3, rfl, own3, hb3'⟩)
          | (go_at_call 35; refine (specRunGrammar_any _ _ a s xs _ (hv3.up hb3') own3.sl hsm (by omega)).mono ?_; rintro e w3'' ⟨rfl, hb3''⟩))
      have b23 := (drewB (w := w2)).trans (hb3.trans ((hb3'.mono hb3.size).trans (hb3''.mono (Nat.le_trans hb3.size hb3'.size))))
      have z3 : w.heap.size + 1 < w3''.heap.size := Nat.lt_of_lt_of_le z2 b23.size
      have z30 : w.heap.size < w3''.heap.size := by omega
      have A3 := Lib.hid (A2.out.up b23 z20)
      have y3 := (b23.cell (p := ⟨w.heap.size + 1, 0, none⟩) z2).trans y2
      have S3 := Lib.hid (S2.out.up b23)
      have T3 := Lib.hid (T2.out.up b23)
      have B3 := Lib.hid (B2.out.trans (b23.mono (by omega)))
      clear KB hv3 own3 hb3 hb3' hb3'' b23 a0 a1 a2 a3 y2
      obtain ⟨a0, a1, a2, a3⟩ := A3.out
      go_wp2_with fail
      refine (toAuto_any _ a _ S3.out n1 n2 N3.out).mono ?_
      rintro e w4 ⟨v4, rfl, hv4, hb4⟩
      have z4 : w.heap.size + 1 < w4.heap.size := Nat.lt_of_lt_of_le z3 hb4.size
      have z40 : w.heap.size < w4.heap.size := by omega
      have A4 := Lib.hid (A3.out.up hb4 z30)
      have y4 := (hb4.cell (p := ⟨w.heap.size + 1, 0, none⟩) z3).trans y3
      have T4 := Lib.hid ((T3.out.up hb4))
      have S4 := Lib.hid ((S3.out.up hb4))
      have B4 := Lib.hid (B3.out.trans (hb4.mono (by omega)))
      have V4 := Lib.hid hv4
      obtain ⟨vF4, vN4, rfl, ⟨AF4, cF4, rfl, _⟩, ⟨AN4, cN4, rfl, _⟩⟩ := hv4
      clear hb4 y3 a0 a1 a2 a3
      go_wp2_with fail
      refine (toGrammar_any _ xs _ (slA T4.out) hn).mono ?_
      rintro e w5 ⟨u5, rfl, own5, hb5⟩
      have X5 := Lib.hid (Box4.new hb5)
      have z45 : w4.heap.size < w5.heap.size := Nat.lt_of_lt_of_le (by simp) hb5.size
      have b45 := ((Below.refl w4.heap.size w4).alloc (Nat.le_refl _) _).trans (hb5.mono (by simp))
      have z5 : w.heap.size + 1 < w5.heap.size := by omega
      have z50 : w.heap.size < w5.heap.size := by omega
      have A5 := Lib.hid (A4.out.up b45 z40)
      have y5 := (b45.cell (p := ⟨w.heap.size + 1, 0, none⟩) z4).trans y4
      have S5 := Lib.hid (S4.out.up b45)
      have T5 := Lib.hid (T4.out.up b45)
      have V5 := Lib.hid (V4.out.up b45)
      have U5 := Lib.hid own5.sl
      have B5 := Lib.hid (B4.out.trans (b45.mono (by omega)))
      obtain ⟨AR5, cR5, rfl, _⟩ := own_nil own5
      clear hb5 b45 own5 y4
      obtain ⟨x0, x1, x2, x3⟩ := X5.out
      go_wp2_with fail
      refine (implRunGrammar_any _ _ a s xs _ (autoA V5.out) (slA U5.out) (by omega)).mono ?_
      rintro e w6 ⟨rfl, hb6⟩
      have z56 : w5.heap.size < w6.heap.size := Nat.lt_of_lt_of_le (by simp) hb6.size
      have g6 : w6.cell? ⟨w5.heap.size, 0, none⟩ = some (.slice AR5 xs.length cR5) := cellNew hb6
      have b56 := ((Below.refl w5.heap.size w5).alloc (Nat.le_refl _) _).trans (hb6.mono (by simp))
      have z6 : w.heap.size + 1 < w6.heap.size := by omega
      have z60 : w.heap.size < w6.heap.size := by omega
      have z64 : w4.heap.size < w6.heap.size := by omega
      have A6 := Lib.hid (A5.out.up b56 z50)
      have X6 := Lib.hid (X5.out.up b56 z45)
      have y6 := (b56.cell (p := ⟨w.heap.size + 1, 0, none⟩) z5).trans y5
      have S6 := Lib.hid (S5.out.up b56)
      have T6 := Lib.hid (T5.out.up b56)
      have V6 := Lib.hid (V5.out.up b56)
      have U6 := Lib.hid (U5.out.up b56)
      have B6 := Lib.hid (B5.out.trans (b56.mono (by omega)))
      clear hb6 b56 y5 x0 x1 x2 x3
      have q1 : (rgV a s xs != rgV a s xs) = false := by simp
      have q2 : (rgC a s xs != rgC a s xs) = false := by simp
      obtain ⟨a0, a1, a2, a3⟩ := A6.out
      obtain ⟨x0, x1, x2, x3⟩ := X6.out
      have KC := And.intro (drewB (w := w6)) (And.intro (show w6.drew.cell? ⟨w4.heap.size, 0, none⟩ = _ from x0) (And.intro (show w6.drew.cell? ⟨w4.heap.size, 1, none⟩ = _ from x1) (And.intro (show w6.drew.cell? ⟨w4.heap.size, 2, none⟩ = _ from x2) (And.intro (show w6.drew.cell? ⟨w4.heap.size, 3, none⟩ = _ from x3)
        (And.intro (show w6.drew.cell? ⟨w.heap.size, 0, none⟩ = _ from a0) (And.intro (show w6.drew.cell? ⟨w.heap.size, 1, none⟩ = _ from a1) (And.intro (show w6.drew.cell? ⟨w.heap.size, 2, none⟩ = _ from a2) (show w6.drew.cell? ⟨w.heap.size, 3, none⟩ = _ from a3))))))))
      go_wp2_with fail
      clear q1 q2
      go_region_held3 (fun w' => Below w6.heap.size w6 w' ∧ w'.cell? ⟨w4.heap.size, 0, none⟩ = some (.int .i64 a.states) ∧ w'.cell? ⟨w4.heap.size, 1, none⟩ = some (.int .i64 a.start) ∧ w'.cell? ⟨w4.heap.size, 2, none⟩ = some (.slice AF4 a.finals.length cF4) ∧ w'.cell? ⟨w4.heap.size, 3, none⟩ = some (.slice AN4 a.next.length cN4) ∧ w'.cell? ⟨w.heap.size, 0, none⟩ = some (.int .i64 a.states) ∧ w'.cell? ⟨w.heap.size, 1, none⟩ = some (.int .i64 a.start) ∧ w'.cell? ⟨w.heap.size, 2, none⟩ = some (.slice AF a.finals.length cF) ∧ w'.cell? ⟨w.heap.size, 3, none⟩ = some (.slice AN a.next.length cN))
        (first | (with_reducible exact KC) | (with_reducible exact keep8 KC hb7 z64 z60) | (with_reducible exact keep8 (keep8 KC hb7 z64 z60) hb7' z64 z60))
        (first
          | (go_at_call 18; refine (toAuto_any _ a _ (S6.out.up drewB) n1 n2 N3.out).mono ?_; rintro e w7 ⟨v7, rfl, hv7, hb7⟩)
          | (go_at_call 20; refine (eqAuto_any _ _ a _ ((V6.out.up drewB).up hb7) hv7).mono ?_; rintro e w7' ⟨rfl, hb7'⟩))
      have b67 := (drewB (w := w6)).trans (hb7.trans (hb7'.mono hb7.size))
      have z7 : w.heap.size + 1 < w7'.heap.size := Nat.lt_of_lt_of_le z6 b67.size
      have z75 : w5.heap.size < w7'.heap.size := Nat.lt_of_lt_of_le z56 b67.size
      have y7 := (b67.cell (p := ⟨w.heap.size + 1, 0, none⟩) z6).trans y6
      have g7 := (b67.cell (p := ⟨w5.heap.size, 0, none⟩) z56).trans g6
      have T7 := Lib.hid (T6.out.up b67)
      have U7 := Lib.hid (U6.out.up b67)
      have B7 := Lib.hid (B6.out.trans (b67.mono (by omega)))
      clear KC hv7 hb7 hb7' b67 a0 a1 a2 a3 x0 x1 x2 x3 y6 g6
      have KD := And.intro (drewB (w := w7')) (And.intro (show w7'.drew.cell? ⟨w5.heap.size, 0, none⟩ = _ from g7) (show w7'.drew.cell? ⟨w.heap.size + 1, 0, none⟩ = _ from y7))
      go_wp2_with fail
      go_region_held3 (fun w' => Below w7'.heap.size w7' w' ∧ w'.cell? ⟨w5.heap.size, 0, none⟩ = some (.slice AR5 xs.length cR5) ∧ w'.cell? ⟨w.heap.size + 1, 0, none⟩ = some (.slice AR xs.length cR))
        (first | (with_reducible exact KD) | (with_reducible exact keep2 KD hb8 z75 z7) | (with_reducible exact keep2 (keep2 KD hb8 z75 z7) hb8' z75 z7))
        (first
          | (go_at_call 28; refine (toGrammar_any _ xs _ (T7.out.up drewB) hn).mono ?_; rintro e w8 ⟨u8, rfl, own8, hb8⟩)
          | (go_at_call 30; refine (eqGrammar_any _ _ xs _ ((U7.out.up drewB).up hb8) own8.sl).mono ?_; rintro e w8' ⟨rfl, hb8'⟩))
      have b78 := Lib.hid ((drewB (w := w7')).trans (hb8.trans (hb8'.mono hb8.size)))
      clear KD hb8 hb8' own8 y7 g7
      go_wp2_with fail
      go_ret
      exact ⟨rfl, B7.out.trans (b78.out.mono (by omega))⟩
end Go.Proofs.Ythidgjdjijjkoaa
