import Derived.Test.YthidgjdjijjkoaaAutoS
namespace Go.Proofs.Ythidgjdjijjkoaa
open Go.RowKit

set_option maxRecDepth 100000 in
set_option maxHeartbeats 2000000 in
theorem lawRunWord_any (v : Value) (a : GAuto) (s : Int) (l : ByteArray) (w : World) (h : AutoV w w.heap.size v a) (hsz : l.size ≤ maxLen) :
    Calls Try.prog 4 #[v, .int .i64 s, .string l] w fun e w' => e = .returned (.bool true) ∧ Below w.heap.size w w' := by
  have hsz' := hsz
  unfold maxLen at hsz'
  have h1 := fun o => (h.below ((Below.refl w.heap.size w).alloc (Nat.le_refl _) o)).le (B' := (w.alloc o).heap.size) (by simp)
  have H1 := Lib.hid h1
  obtain ⟨vF, vN, rfl, hF, hN⟩ := h
  obtain ⟨AF, cF, rfl, _⟩ := hF
  obtain ⟨AN, cN, rfl, _⟩ := hN
  clear h1
  by_cases hbig : l.size ≤ 1048576
  · go_enter Try.func4, Try.ntmps4
    go_wp2_with fail
    refine (szAuto_any _ a _ _ (H1.out _) (by omega)).mono ?_
    rintro e w1 ⟨rfl, hb1⟩
    have z1 : w.heap.size < w1.heap.size := Nat.lt_of_lt_of_le (by simp) hb1.size
    have A1 := Box4.new hb1
    have B1 := Lib.hid (((Below.refl w.heap.size w).alloc (Nat.le_refl _) _).trans (hb1.mono (by simp)))
    have S1 := Lib.hid ((H1.out _).up hb1)
    clear hb1
    by_cases hneg : szA a 1048576 < 0
    · have H := Lib.hid hneg
      go_wp2_with fail
      go_ret
      exact ⟨rfl, B1.out⟩
    · obtain ⟨n1, n2, n3⟩ := szA_le (a := a) (by omega)
      have N3 := Lib.hid n3
      clear n3
      obtain ⟨a0, a1, a2, a3⟩ := A1
      go_wp2_with fail
      refine (toAuto_any _ a _ S1.out n1 n2 N3.out).mono ?_
      rintro e w2 ⟨v2, rfl, hv2, hb2⟩
      have z2 : w.heap.size < w2.heap.size := by have := hb2.size; omega
      have A2 := Lib.hid (Box4.up ⟨a0, a1, a2, a3⟩ hb2 z1)
      have S2 := Lib.hid (S1.out.up hb2)
      have B2 := Lib.hid (B1.out.trans (hb2.mono (by omega)))
      have V2 := Lib.hid hv2
      clear hb2 a0 a1 a2 a3 hv2
      go_wp2_with fail
      refine (specRunWord_any _ a s l _ V2.out hsz).mono ?_
      rintro e w3 ⟨rfl, hb3⟩
      have z3 : w.heap.size < w3.heap.size := by have := hb3.size; omega
      have A3 := Box4.up A2.out hb3 z2
      have S3 := Lib.hid (S2.out.up hb3)
      have B3 := Lib.hid (B2.out.trans (hb3.mono (by omega)))
      clear hb3
      obtain ⟨a0, a1, a2, a3⟩ := A3
      go_wp2_with fail
      refine (toAuto_any _ a _ S3.out n1 n2 N3.out).mono ?_
      rintro e w4 ⟨v4, rfl, hv4, hb4⟩
      have z4 : w.heap.size < w4.heap.size := by have := hb4.size; omega
      have A4 := Lib.hid (Box4.up ⟨a0, a1, a2, a3⟩ hb4 z3)
      have S4 := Lib.hid (S3.out.up hb4)
      have B4 := Lib.hid (B3.out.trans (hb4.mono (by omega)))
      have V4 := Lib.hid hv4
      obtain ⟨vF4, vN4, rfl, ⟨AF4, cF4, rfl, _⟩, ⟨AN4, cN4, rfl, _⟩⟩ := hv4
      clear hb4 a0 a1 a2 a3
      go_wp2_with fail
      refine (implRunWord_any _ a s l _ ((V4.out.below ((Below.refl _ _).alloc (Nat.le_refl _) _)).le (by first | omega | (simp; done) | (simp; omega))) hsz).mono ?_
      rintro e w5 ⟨rfl, hb5⟩
      have z5 : w.heap.size < w5.heap.size := Nat.lt_of_lt_of_le (Nat.lt_trans z4 (by simp)) hb5.size
      have y5 : w4.heap.size < w5.heap.size := Nat.lt_of_lt_of_le (by simp) hb5.size
      have X5 := Box4.new hb5
      have b45 := ((Below.refl w4.heap.size w4).alloc (Nat.le_refl _) _).trans (hb5.mono (by simp))
      have A5 := Box4.up A4.out b45 z4
      have S5 := Lib.hid (S4.out.up b45)
      have V5 := Lib.hid (V4.out.up b45)
      have B5 := Lib.hid (B4.out.trans (b45.mono (by omega)))
      clear hb5 b45
      obtain ⟨a0, a1, a2, a3⟩ := A5
      obtain ⟨x0, x1, x2, x3⟩ := X5
      have q1 : (runWV a s l != runWV a s l) = false := by simp
      have q2 : (runWC a s l != runWC a s l) = false := by simp
      go_wp2_with fail
      clear q1 q2
      go_region_held3 (fun w' => Below w5.heap.size w5 w' ∧ w'.cell? ⟨w4.heap.size, 0, none⟩ = some (.int .i64 a.states) ∧ w'.cell? ⟨w4.heap.size, 1, none⟩ = some (.int .i64 a.start) ∧ w'.cell? ⟨w4.heap.size, 2, none⟩ = some (.slice AF4 a.finals.length cF4) ∧ w'.cell? ⟨w4.heap.size, 3, none⟩ = some (.slice AN4 a.next.length cN4) ∧ w'.cell? ⟨w.heap.size, 0, none⟩ = some (.int .i64 a.states) ∧ w'.cell? ⟨w.heap.size, 1, none⟩ = some (.int .i64 a.start) ∧ w'.cell? ⟨w.heap.size, 2, none⟩ = some (.slice AF a.finals.length cF) ∧ w'.cell? ⟨w.heap.size, 3, none⟩ = some (.slice AN a.next.length cN))
        (first | exact ⟨(Below.refl _ _).drew, x0, x1, x2, x3, a0, a1, a2, a3⟩ | (exact keep8 (by assumption) hb6 y5 z5) | (exact keep8 (by assumption) hb7 y5 z5))
        (first
          | (go_at_call 18; refine (toAuto_any _ a _ (S5.out.up (Below.drew (Below.refl _ _))) n1 n2 N3.out).mono ?_; rintro e w6 ⟨v6, rfl, hv6, hb6⟩)
          | (go_at_call 20; refine (eqAuto_any _ _ a _ ((V5.out.up (Below.drew (Below.refl _ _))).up hb6) hv6).mono ?_; rintro e w7 ⟨rfl, hb7⟩))
      have B6 := Lib.hid (B5.out.trans ((((Below.drew (Below.refl w5.heap.size w5)).trans hb6).trans (hb7.mono hb6.size)).mono (by omega)))
      go_wp2_with fail
      go_ret
      exact ⟨rfl, B6.out⟩
  · go_enter Try.func4, Try.ntmps4
    go_wp2_with fail
    go_ret
    exact ⟨rfl, (by repeat (first | exact Below.refl _ _ | (refine Below.alloc ?_ (by first | omega | (simp; done) | (simp; omega)) _) | refine below_drewN ?_ _ | refine Below.drew ?_))⟩
end Go.Proofs.Ythidgjdjijjkoaa
