import Derived.Test.YthidgjdjijjkoaaEdit8
import Derived.Test.YthidgjdjijjkoaaEditL
namespace Go.Proofs.Ythidgjdjijjkoaa
open Go.RowKit

theorem szE_le {e : GEdit} (h : 0 ≤ szE e 1048576) : e.part.length ≤ 1048576 := by
  unfold szE at h
  split at h
  · omega
  · obtain ⟨_, h2⟩ := szRs_le e.part 1048576 (by omega)
    omega
theorem keep12 {wr W W2 : World} {p q : Nat} {a0 a1 a2 a3 a4 a5 b0 b1 b2 b3 b4 b5 : Value}
    (h : Below wr.heap.size wr W ∧ W.cell? ⟨p, 0, none⟩ = some a0 ∧ W.cell? ⟨p, 1, none⟩ = some a1 ∧ W.cell? ⟨p, 2, none⟩ = some a2 ∧ W.cell? ⟨p, 3, none⟩ = some a3 ∧ W.cell? ⟨p, 4, none⟩ = some a4 ∧ W.cell? ⟨p, 5, none⟩ = some a5 ∧ W.cell? ⟨q, 0, none⟩ = some b0 ∧ W.cell? ⟨q, 1, none⟩ = some b1 ∧ W.cell? ⟨q, 2, none⟩ = some b2 ∧ W.cell? ⟨q, 3, none⟩ = some b3 ∧ W.cell? ⟨q, 4, none⟩ = some b4 ∧ W.cell? ⟨q, 5, none⟩ = some b5)
    (h2 : Below W.heap.size W W2) (hp : p < wr.heap.size) (hq : q < wr.heap.size) :
    Below wr.heap.size wr W2 ∧ W2.cell? ⟨p, 0, none⟩ = some a0 ∧ W2.cell? ⟨p, 1, none⟩ = some a1 ∧ W2.cell? ⟨p, 2, none⟩ = some a2 ∧ W2.cell? ⟨p, 3, none⟩ = some a3 ∧ W2.cell? ⟨p, 4, none⟩ = some a4 ∧ W2.cell? ⟨p, 5, none⟩ = some a5 ∧ W2.cell? ⟨q, 0, none⟩ = some b0 ∧ W2.cell? ⟨q, 1, none⟩ = some b1 ∧ W2.cell? ⟨q, 2, none⟩ = some b2 ∧ W2.cell? ⟨q, 3, none⟩ = some b3 ∧ W2.cell? ⟨q, 4, none⟩ = some b4 ∧ W2.cell? ⟨q, 5, none⟩ = some b5 := by
  obtain ⟨h1, x0, x1, x2, x3, x4, x5, y0, y1, y2, y3, y4, y5⟩ := h
  have k : ∀ {b o : Nat} {v : Value}, b < wr.heap.size → W.cell? ⟨b, o, none⟩ = some v → W2.cell? ⟨b, o, none⟩ = some v := fun {b o v} hlt hc => (h2.cell (p := ⟨b, o, none⟩) (Nat.lt_of_lt_of_le hlt h1.size)).trans hc
  exact ⟨h1.trans (h2.mono h1.size), k hp x0, k hp x1, k hp x2, k hp x3, k hp x4, k hp x5, k hq y0, k hq y1, k hq y2, k hq y3, k hq y4, k hq y5⟩

set_option maxRecDepth 100000 in
set_option maxHeartbeats 2000000 in
theorem lawPlaceAfter_any (n : Int) (v : Value) (e : GEdit) (p : Int) (w : World) (h : EditV w w.heap.size v e) (hsm : SmallL e.part) (hm : e.map.size ≤ maxLen) :
    Calls Try.prog 12 #[.int .i64 n, v, .int .i64 p] w fun r w' => r = .returned (.bool true) ∧ Below w.heap.size w w' := by
  have h1 := fun o => (h.below ((Below.refl w.heap.size w).alloc (Nat.le_refl _) o)).le (B' := (w.alloc o).heap.size) (by simp)
  have H1 := Lib.hid h1
  obtain ⟨vR, rfl, hR⟩ := h
  obtain ⟨AR, cR, rfl, _⟩ := hR
  clear h1
  go_enter Try.func12, Try.ntmps12
  go_wp2_with fail
  refine (szEdit_any _ e _ _ (H1.out _) hsm hm (by omega)).mono ?_
  rintro r w1 ⟨rfl, hb1⟩
  have z1 : w.heap.size < w1.heap.size := Nat.lt_of_lt_of_le (by simp) hb1.size
  have A1 := Lib.hid (Box6.new hb1)
  have B1 := Lib.hid (((Below.refl w.heap.size w).alloc (Nat.le_refl _) _).trans (hb1.mono (by simp)))
  have S1 := Lib.hid ((H1.out _).up hb1)
  clear hb1
  by_cases hneg : szE e 1048576 < 0
  · go_wp2_with fail
    go_ret
    exact ⟨rfl, B1.out⟩
  · have hn := szE_le (e := e) (by omega)
    have hn' : e.part.length ≤ 1099511627776 := by omega
    obtain ⟨a0, a1, a2, a3, a4, a5⟩ := A1.out
    go_wp2_with fail
    refine (toEdit_any _ e _ S1.out hn).mono ?_
    rintro r w2 ⟨v2, rfl, hv2, hb2⟩
    have z2 : w.heap.size < w2.heap.size := Nat.lt_of_lt_of_le z1 hb2.size
    have A2 := Lib.hid (A1.out.up hb2 z1)
    have S2 := Lib.hid (S1.out.up hb2)
    have B2 := Lib.hid (B1.out.trans (hb2.mono B1.out.size))
    have V2 := Lib.hid hv2
    clear hb2 a0 a1 a2 a3 a4 a5 hv2 A1
    go_wp2_with fail
    refine (specPlaceAfter_any n _ e p _ V2.out hsm hn' hm).mono ?_
    rintro r w3 ⟨rfl, hb3⟩
    have z3 : w.heap.size < w3.heap.size := Nat.lt_of_lt_of_le z2 hb3.size
    have A3 := Lib.hid (A2.out.up hb3 z2)
    have S3 := Lib.hid (S2.out.up hb3)
    have B3 := Lib.hid (B2.out.trans (hb3.mono B2.out.size))
    clear hb3 A2
    obtain ⟨a0, a1, a2, a3, a4, a5⟩ := A3.out
    go_wp2_with fail
    refine (toEdit_any _ e _ S3.out hn).mono ?_
    rintro r w4 ⟨v4, rfl, hv4, hb4⟩
    have z4 : w.heap.size < w4.heap.size := Nat.lt_of_lt_of_le z3 hb4.size
    have A4 := Lib.hid (A3.out.up hb4 z3)
    have S4 := Lib.hid (S3.out.up hb4)
    have B4 := Lib.hid (B3.out.trans (hb4.mono B3.out.size))
    have V4 := Lib.hid hv4
    obtain ⟨vR4, rfl, ⟨AR4, cR4, rfl, _⟩⟩ := hv4
    clear hb4 a0 a1 a2 a3 a4 a5 A3
    go_wp2_with fail
    refine (implPlaceAfter_any n _ e p _ ((V4.out.below ((Below.refl _ _).alloc (Nat.le_refl _) _)).le (by first | omega | (simp; done) | (simp; omega))) hn' hm).mono ?_
    rintro r w5 ⟨rfl, hb5⟩
    have y5 : w4.heap.size < w5.heap.size := Nat.lt_of_lt_of_le (by simp) hb5.size
    have z5 : w.heap.size < w5.heap.size := Nat.lt_trans z4 y5
    have X5 := Lib.hid (Box6.new hb5)
    have b45 := ((Below.refl w4.heap.size w4).alloc (Nat.le_refl _) _).trans (hb5.mono (by simp))
    have A5 := Lib.hid (A4.out.up b45 z4)
    have S5 := Lib.hid (S4.out.up b45)
    have V5 := Lib.hid (V4.out.up b45)
    have B5 := Lib.hid (B4.out.trans (b45.mono B4.out.size))
    clear hb5 b45 A4
    obtain ⟨a0, a1, a2, a3, a4, a5⟩ := A5.out
    obtain ⟨x0, x1, x2, x3, x4, x5⟩ := X5.out
    have KB := And.intro (Below.drew (Below.refl w5.heap.size w5)) (And.intro (show w5.drew.cell? ⟨w4.heap.size, 0, none⟩ = _ from x0) (And.intro (show w5.drew.cell? ⟨w4.heap.size, 1, none⟩ = _ from x1) (And.intro (show w5.drew.cell? ⟨w4.heap.size, 2, none⟩ = _ from x2) (And.intro (show w5.drew.cell? ⟨w4.heap.size, 3, none⟩ = _ from x3) (And.intro (show w5.drew.cell? ⟨w4.heap.size, 4, none⟩ = _ from x4) (And.intro (show w5.drew.cell? ⟨w4.heap.size, 5, none⟩ = _ from x5) (And.intro (show w5.drew.cell? ⟨w.heap.size, 0, none⟩ = _ from a0) (And.intro (show w5.drew.cell? ⟨w.heap.size, 1, none⟩ = _ from a1) (And.intro (show w5.drew.cell? ⟨w.heap.size, 2, none⟩ = _ from a2) (And.intro (show w5.drew.cell? ⟨w.heap.size, 3, none⟩ = _ from a3) (And.intro (show w5.drew.cell? ⟨w.heap.size, 4, none⟩ = _ from a4) (show w5.drew.cell? ⟨w.heap.size, 5, none⟩ = _ from a5))))))))))))
    have q1 : (paV n e p != paV n e p) = false := by simp
    have q2 : (paC n e p != paC n e p) = false := by simp
    go_wp2_with fail
    clear q1 q2
    go_region_held3 (fun w' => Below w5.heap.size w5 w' ∧ w'.cell? ⟨w4.heap.size, 0, none⟩ = some (.int .i64 e.kind) ∧ w'.cell? ⟨w4.heap.size, 1, none⟩ = some (.int .i64 e.i) ∧ w'.cell? ⟨w4.heap.size, 2, none⟩ = some (.int .i64 e.j) ∧ w'.cell? ⟨w4.heap.size, 3, none⟩ = some (.int .i64 e.k) ∧ w'.cell? ⟨w4.heap.size, 4, none⟩ = some (.slice AR4 e.part.length cR4) ∧ w'.cell? ⟨w4.heap.size, 5, none⟩ = some (.string e.map) ∧ w'.cell? ⟨w.heap.size, 0, none⟩ = some (.int .i64 e.kind) ∧ w'.cell? ⟨w.heap.size, 1, none⟩ = some (.int .i64 e.i) ∧ w'.cell? ⟨w.heap.size, 2, none⟩ = some (.int .i64 e.j) ∧ w'.cell? ⟨w.heap.size, 3, none⟩ = some (.int .i64 e.k) ∧ w'.cell? ⟨w.heap.size, 4, none⟩ = some (.slice AR e.part.length cR) ∧ w'.cell? ⟨w.heap.size, 5, none⟩ = some (.string e.map))
      (first | (with_reducible exact KB) | (with_reducible exact keep12 KB hb6 y5 z5) | (with_reducible exact keep12 (keep12 KB hb6 y5 z5) hb7 y5 z5))
      (first
        | (go_at_call 45; refine (toEdit_any _ e _ (S5.out.up (Below.drew (Below.refl _ _))) hn).mono ?_; rintro r w6 ⟨v6, rfl, hv6, hb6⟩)
        | (go_at_call 47; refine (eqEdit_any _ _ e _ ((V5.out.up (Below.drew (Below.refl _ _))).up hb6) hv6).mono ?_; rintro r w7 ⟨rfl, hb7⟩))
    have B6 := Lib.hid (B5.out.trans ((((Below.drew (Below.refl w5.heap.size w5)).trans hb6).trans (hb7.mono hb6.size)).mono B5.out.size))
    clear KB hb6 hb7 hv6 a0 a1 a2 a3 a4 a5 x0 x1 x2 x3 x4 x5
    go_wp2_with fail
    go_ret
    exact ⟨rfl, B6.out⟩
end Go.Proofs.Ythidgjdjijjkoaa
