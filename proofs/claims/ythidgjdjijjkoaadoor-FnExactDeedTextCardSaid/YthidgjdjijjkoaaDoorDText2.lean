import Derived.Test.YthidgjdjijjkoaaDoorDText
import Derived.Deep.CutRange
import Derived.Deep.DeepCutAuto
namespace Go.Proofs.YthidgjdjijjkoaaDoor
open Go.RowKit

def wordL (k : Int) : List UInt8 := if k = 1 then [112, 117, 116] else if k = 2 then [115, 97, 118, 101] else if k = 3 then [99, 114, 97, 115, 104] else if k = 4 then [111, 102, 102, 101, 114] else if k = 5 then [97, 115, 107] else if k = 6 then [100, 101, 108, 105, 118, 101, 114] else if k = 7 then [99, 111, 112, 121] else if k = 8 then [100, 114, 111, 112] else [115, 119, 101, 101, 112]
theorem kind9 {k : Int} (h : 1 ≤ k ∧ k ≤ 9) : k = 1 ∨ k = 2 ∨ k = 3 ∨ k = 4 ∨ k = 5 ∨ k = 6 ∨ k = 7 ∨ k = 8 ∨ k = 9 := by omega
theorem wordL_len {k : Int} (h : 1 ≤ k ∧ k ≤ 9) : (wordL k).length ≤ 7 := by
  rcases kind9 h with rfl | rfl | rfl | rfl | rfl | rfl | rfl | rfl | rfl <;> decide
theorem deedN_in {k : Int} (h : 1 ≤ k ∧ k ≤ 9) : deedN k = 1 ∨ deedN k = 2 ∨ deedN k = 3 := by
  rcases kind9 h with rfl | rfl | rfl | rfl | rfl | rfl | rfl | rfl | rfl <;> decide
theorem deedWordS_any (k : Int) (w : World) (h : 1 ≤ k ∧ k ≤ 9) :
    Calls Tryd.prog 20 #[.int .i64 k] w fun e w' => e = .returned (.tuple #[.string ⟨(wordL k).toArray⟩, .int .i64 (deedN k)]) ∧ w = w' := by
  rcases kind9 h with rfl | rfl | rfl | rfl | rfl | rfl | rfl | rfl | rfl <;>
  · clear h
    go_enter Tryd.func20, Tryd.ntmps20
    go_wp2
    go_ret2
    exact ⟨rfl, rfl⟩
def WordsPost (w : World) (e : Ending) (w' : World) : Prop :=
  ∃ B, e = .returned (.slice (some ⟨B, 0, none⟩) 10 10) ∧ Below w.heap.size w w' ∧ B < w'.heap.size ∧ ∀ k : Nat, 1 ≤ k → k ≤ 9 → w'.cell? ⟨B, k, none⟩ = some (.string ⟨(wordL k).toArray⟩)
theorem l08Words_any (w : World) : Calls Tryd.prog 16 #[] w (WordsPost w) := by
  go_enter Tryd.func16, Tryd.ntmps16
  go_wp2
  go_ret
  refine ⟨_, rfl, (by repeat (first | exact Below.refl _ _ | (refine Below.alloc ?_ (by first | omega | (simp; done) | (simp; omega)) _) | refine below_drewN ?_ _ | refine Below.drew ?_)), by simp, ?_⟩
  intro k h1 h2
  have : k = 1 ∨ k = 2 ∨ k = 3 ∨ k = 4 ∨ k = 5 ∨ k = 6 ∨ k = 7 ∨ k = 8 ∨ k = 9 := by omega
  rcases this with rfl | rfl | rfl | rfl | rfl | rfl | rfl | rfl | rfl <;> simp [go_sem, wordL]

/-- The text of a deed. -/
def textL (k a b c : Int) : List UInt8 := wordL k ++ (32 :: dec a) ++ (if 1 < deedN k then 32 :: dec b else []) ++ (if 2 < deedN k then 32 :: dec c else [])
def textS (k a b c : Int) : ByteArray := if deedOk k a b c then ⟨(textL k a b c).toArray⟩ else ⟨#[]⟩
theorem deedOk_get {k a b c : Int} (h : deedOk k a b c = true) : (1 ≤ k ∧ k ≤ 9) ∧ (0 ≤ a ∧ a ≤ 999) ∧ (0 ≤ b ∧ b ≤ 999) ∧ (0 ≤ c ∧ c ≤ 999) := by
  simp [deedOk] at h; omega
theorem dec_len {a : Int} (h : 0 ≤ a ∧ a ≤ 999) : (dec a).length ≤ 3 := by
  unfold dec; rw [Lib.decDigits_length]; exact digits_le (by omega)
theorem Decimal_int (a : Int) (h : 0 ≤ a ∧ a ≤ 999) (w : World) : Calls Tryd.prog 17 #[.int .i64 a] w fun e w' => e = .returned (.string ⟨(dec a).toArray⟩) ∧ Below w.heap.size w w' := by
  obtain ⟨n, rfl⟩ := Int.eq_ofNat_of_zero_le h.1
  exact Decimal_any n (by omega) w
theorem l08Fields_b (k : Int) (w : World) (h : 1 ≤ k ∧ k ≤ 9) :
    Calls Tryd.prog 18 #[.int .i64 k] w fun e w' => e = .returned (.int .i64 (deedN k)) ∧ Below w.heap.size w w' :=
  (l08Fields_any k w h).mono fun e w' ⟨h1, cs, t, h2⟩ => ⟨h1, by subst h2; exact (Below.refl _ _).alloc (Nat.le_refl _) _⟩
theorem str32 : (⟨#[32]⟩ : ByteArray) = ⟨[32].toArray⟩ := rfl
theorem Box4.upD {w w' : World} {b N : Nat} {c0 c1 c2 c3 : Value} (h : w.cell? ⟨b, 0, none⟩ = some c0 ∧ w.cell? ⟨b, 1, none⟩ = some c1 ∧ w.cell? ⟨b, 2, none⟩ = some c2 ∧ w.cell? ⟨b, 3, none⟩ = some c3) (hb : Below N w w') (hlt : b < N) :
    w'.cell? ⟨b, 0, none⟩ = some c0 ∧ w'.cell? ⟨b, 1, none⟩ = some c1 ∧ w'.cell? ⟨b, 2, none⟩ = some c2 ∧ w'.cell? ⟨b, 3, none⟩ = some c3 := by
  have k : ∀ {o : Nat} {v : Value}, w.cell? ⟨b, o, none⟩ = some v → w'.cell? ⟨b, o, none⟩ = some v := fun {o v} hc => (hb.cell (p := ⟨b, o, none⟩) hlt).trans hc
  exact ⟨k h.1, k h.2.1, k h.2.2.1, k h.2.2.2⟩

set_option maxRecDepth 100000 in
set_option maxHeartbeats 2000000 in
theorem specDeedText_any (k a b c : Int) (w : World) :
    Calls Tryd.prog 5 #[.agg #[.int .i64 k, .int .i64 a, .int .i64 b, .int .i64 c]] w fun e w' => e = .returned (.string (textS k a b c)) ∧ Below w.heap.size w w' := by
  go_enter Tryd.func5, Tryd.ntmps5
  go_wp2_with fail
  refine (specValidDeed_any k a b c _).mono ?_
  rintro e w1 ⟨rfl, hb1⟩
  have z1 : w.heap.size < w1.heap.size := Nat.lt_of_lt_of_le (by simp) hb1.size
  have X1 := Lib.hid (Box4.upD (b := w.heap.size) (c0 := .int .i64 k) (c1 := .int .i64 a) (c2 := .int .i64 b) (c3 := .int .i64 c) ⟨by simp [go_sem], by simp [go_sem], by simp [go_sem], by simp [go_sem]⟩ hb1 (by simp))
  have B1 := Lib.hid (((Below.refl w.heap.size w).alloc (Nat.le_refl _) _).trans (hb1.mono (by simp)))
  clear hb1
  by_cases hok : deedOk k a b c = true
  · have g0 : (!deedOk k a b c) = false := by simp [hok]
    have HO := Lib.hid hok
    obtain ⟨hk, ha, hb, hc⟩ := deedOk_get hok
    have hW := wordL_len hk
    have hA := dec_len ha
    have hBl := dec_len hb
    have hC := dec_len hc
    have hD := deedN_in hk
    have Hk := Lib.hid hk
    have Ha := Lib.hid ha
    have Hb := Lib.hid hb
    have Hc := Lib.hid hc
    obtain ⟨κ, rfl⟩ := Int.eq_ofNat_of_zero_le (show 0 ≤ k by omega)
    have hκ : (κ : Int) < 10 := by omega
    have h1κ : 1 ≤ κ := by omega
    have h9κ : κ ≤ 9 := by omega
    have z1d : w.heap.size < w1.drew.heap.size := z1
    have x0 : w1.drew.cell? ⟨w.heap.size, 0, none⟩ = some (.int .i64 κ) ∧ w1.drew.cell? ⟨w.heap.size, 1, none⟩ = some (.int .i64 a) ∧ w1.drew.cell? ⟨w.heap.size, 2, none⟩ = some (.int .i64 b) ∧ w1.drew.cell? ⟨w.heap.size, 3, none⟩ = some (.int .i64 c) := X1.out
    obtain ⟨WL, hWL⟩ : ∃ WL, wordL κ = WL := ⟨_, rfl⟩
    have HWL := Lib.hid hWL
    rw [hWL] at hW
    have n1 : ¬ (9223372036854775807 < WL.length + 1) := by omega
    have n2 : ¬ (9223372036854775807 < WL.length + 1 + (dec a).length) := by omega
    obtain ⟨xx0, xx1, xx2, xx3⟩ := x0
    have X0 := And.intro xx0 (And.intro xx1 (And.intro xx2 xx3))
    clear hok hk ha hb hc hWL
    go_upto_region 3 with fail
    go_cut [3] (fun out wx => out = .string (((⟨WL.toArray⟩ : ByteArray) ++ ⟨#[32]⟩) ++ ⟨(dec a).toArray⟩) ∧ Below w1.heap.size w1 wx)
    case first =>
      go_region_law (first
        | (go_simp; go_at_call 16; refine (l08Words_any _).mono ?_; rintro e w2 ⟨B, rfl, hb2, hB, hw2⟩; have hcw := hw2 κ h1κ h9κ; rw [HWL.out] at hcw; clear hw2; (first | (have Y0 := Box4.upD U0 hb2 z3) | (have Y0 := Box4.upD X0 hb2 z1d)); obtain ⟨yy0, yy1, yy2, yy3⟩ := And.intro Y0.1 Y0.2; (first | (have z2 := Nat.lt_of_lt_of_le z3 hb2.size) | (have z2 := Nat.lt_of_lt_of_le z1d hb2.size)))
        | (go_simp; go_at_call 17; refine (Decimal_int a Ha.out _).mono ?_; rintro e w3 ⟨rfl, hb3⟩; (first | (have U0 := Box4.upD Y0 hb3 z2) | (have U0 := Box4.upD X0 hb3 z1d)); obtain ⟨uu0, uu1, uu2, uu3⟩ := And.intro U0.1 U0.2; (first | (have hcw' := (hb3.cell (p := ⟨B, κ, none⟩) hB).trans hcw) | skip); (first | (have z3 := Nat.lt_of_lt_of_le z2 hb3.size) | (have z3 := Nat.lt_of_lt_of_le z1d hb3.size))))
      all_goals
        go_wp2_with fail
        go_meet
        first
          | exact ⟨rfl, (Below.drew (Below.refl w1.heap.size w1)).trans (hb2.trans (hb3.mono hb2.size))⟩
          | exact ⟨rfl, (Below.drew (Below.refl w1.heap.size w1)).trans (hb3.trans (hb2.mono hb3.size))⟩
    case rest =>
      revert hcut
      generalize wc = w4
      intro hcut
      obtain ⟨rfl, hb4⟩ := hcut
      have z4 : w.heap.size < w4.heap.size := Nat.lt_of_lt_of_le z1 hb4.size
      have X4 := Lib.hid (Box4.upD X1.out hb4 z1)
      have B4 := Lib.hid (B1.out.trans (hb4.mono B1.out.size))
      obtain ⟨S1, hS1⟩ : ∃ S1, (((⟨WL.toArray⟩ : ByteArray) ++ ⟨#[32]⟩) ++ ⟨(dec a).toArray⟩) = S1 := ⟨_, rfl⟩
      have hs1 : S1.size ≤ 11 := by rw [← hS1, str32, str_app, str_app]; show (WL ++ [32] ++ dec a).toArray.size ≤ 11; rw [List.size_toArray]; simp only [List.length_append, List.length_cons, List.length_nil]; omega
      rw [hS1]
      have HS1 := Lib.hid hS1
      clear hS1 hb4 X0 xx0 xx1 xx2 xx3 n1 n2
      obtain ⟨x0, x1, x2, x3⟩ := And.intro X4.out.1 X4.out.2
      go_wp2_with fail
      refine (l08Fields_b _ _ Hk.out).mono ?_
      rintro e w5 ⟨rfl, hb5⟩
      have z5 : w.heap.size < w5.heap.size := Nat.lt_of_lt_of_le z4 hb5.size
      have X5 := Lib.hid (Box4.upD X4.out hb5 z4)
      have B5 := Lib.hid (B4.out.trans (hb5.mono B4.out.size))
      clear hb5 x0 x1 x2 x3
      obtain ⟨x0, x1, x2, x3⟩ := And.intro X5.out.1 X5.out.2
      obtain ⟨N, hN⟩ : ∃ N, deedN (κ : Int) = N := ⟨_, rfl⟩
      rw [hN] at hD
      rw [hN]
      have HN := Lib.hid hN
      clear hN
      by_cases c1 : N = 1
      · subst c1
        go_wp2_with fail
        refine (l08Fields_b _ _ Hk.out).mono ?_
        rintro e w6 ⟨rfl, hb6⟩
        rw [HN.out]
        have B6 := Lib.hid (B5.out.trans (hb6.mono B5.out.size))
        clear hb6
        go_wp2_with fail
        go_ret
        refine ⟨?_, B6.out⟩
        show Ending.returned (Value.string S1) = _
        rw [textS, if_pos HO.out, textL, HN.out, ← HS1.out, HWL.out]
        simp [str_app, str32]
      · have d1 : 1 < N := by omega
        have n3 : ¬ (9223372036854775807 < 1 + (dec b).length) := by omega
        have n4 : ¬ (9223372036854775807 < S1.size + (1 + (dec b).length)) := by omega
        go_wp2_with fail
        refine (Decimal_int b Hb.out _).mono ?_
        rintro e w6 ⟨rfl, hb6⟩
        have z6 : w.heap.size < w6.heap.size := Nat.lt_of_lt_of_le z5 hb6.size
        have X6 := Lib.hid (Box4.upD X5.out hb6 z5)
        have B6 := Lib.hid (B5.out.trans (hb6.mono B5.out.size))
        clear hb6 x0 x1 x2 x3
        obtain ⟨x0, x1, x2, x3⟩ := And.intro X6.out.1 X6.out.2
        go_wp2_with fail
        refine (l08Fields_b _ _ Hk.out).mono ?_
        rintro e w7 ⟨rfl, hb7⟩
        rw [HN.out]
        have z7 : w.heap.size < w7.heap.size := Nat.lt_of_lt_of_le z6 hb7.size
        have X7 := Lib.hid (Box4.upD X6.out hb7 z6)
        have B7 := Lib.hid (B6.out.trans (hb7.mono B6.out.size))
        clear hb7 x0 x1 x2 x3
        obtain ⟨x0, x1, x2, x3⟩ := And.intro X7.out.1 X7.out.2
        by_cases c2 : N = 2
        · subst c2
          go_wp2_with fail
          go_ret
          refine ⟨?_, B7.out⟩
          show Ending.returned (Value.string (S1 ++ ((⟨#[32]⟩ : ByteArray) ++ ⟨(dec b).toArray⟩))) = _
          rw [textS, if_pos HO.out, textL, HN.out, ← HS1.out, HWL.out]
          simp [str_app, str32]
        · have c3 : N = 3 := by omega
          subst c3
          have n5 : ¬ (9223372036854775807 < 1 + (dec c).length) := by omega
          have n6 : ¬ (9223372036854775807 < S1.size + (1 + (dec b).length) + (1 + (dec c).length)) := by omega
          go_wp2_with fail
          refine (Decimal_int c Hc.out _).mono ?_
          rintro e w8 ⟨rfl, hb8⟩
          have B8 := Lib.hid (B7.out.trans (hb8.mono B7.out.size))
          clear hb8
          go_wp2_with fail
          go_ret
          refine ⟨?_, B8.out⟩
          show Ending.returned (Value.string (S1 ++ ((⟨#[32]⟩ : ByteArray) ++ ⟨(dec b).toArray⟩) ++ ((⟨#[32]⟩ : ByteArray) ++ ⟨(dec c).toArray⟩))) = _
          rw [textS, if_pos HO.out, textL, HN.out, ← HS1.out, HWL.out]
          simp [str_app, str32]
  · have hok' : deedOk k a b c = false := by simpa using hok
    have g0 : (!deedOk k a b c) = true := by simp [hok']
    have HO := Lib.hid hok'
    clear hok hok'
    go_wp2_with fail
    go_ret
    exact ⟨by simp [textS, HO.out], B1.out⟩
end Go.Proofs.YthidgjdjijjkoaaDoor
