import Derived.Test.YthidgjdjijjkoaaRide2
import Derived.Test.YthidgjdjijjkoaaJoin2
namespace Go.Proofs.Ythidgjdjijjkoaa
open Go.RowKit

/-- The state to which the word of a grammar leads. -/
def endS (next : List (List Int)) (xs : List GRule) (s : Nat) : Nat := if xs.length = 0 then s else stepM (mapsOf next xs) s (xs.length - 1)
theorem pieces_all {xs : List GRule} {ls : List Int} (hl : lens xs = some ls) : piecesL xs ls 0 (lastI ls) = if xs.length = 0 then [] else [xs.length - 1] := by
  have hll := lens_length hl
  unfold piecesL
  by_cases h0 : xs.length = 0
  · rw [if_neg (by omega), if_pos h0]
  · have hp := lens_pos' hl (r := xs.length - 1) (by omega)
    have e : lastI ls = ls.getD (xs.length - 1) 0 := by rw [lastI, hll]
    rw [if_pos ⟨by omega, by rw [e]; omega⟩, if_neg h0]
    obtain ⟨n, hn⟩ : ∃ n, xs.length = n + 1 := ⟨xs.length - 1, by omega⟩
    rw [hn, coverR]
    rw [hn] at e hp
    rw [if_neg (by rw [e]; omega), if_pos (by rw [e]; omega)]
theorem fold_all {next : List (List Int)} {xs : List GRule} {ls : List Int} (hl : lens xs = some ls) (s : Nat) : (piecesL xs ls 0 (lastI ls)).foldl (stepM (mapsOf next xs)) s = endS next xs s := by
  rw [pieces_all hl, endS]
  split <;> rfl

/-- Seven cells of a block. -/
def Box7 (w : World) (b : Nat) (c0 c1 c2 c3 c4 c5 c6 : Value) : Prop := w.cell? ⟨b, 0, none⟩ = some c0 ∧ w.cell? ⟨b, 1, none⟩ = some c1 ∧ w.cell? ⟨b, 2, none⟩ = some c2 ∧ w.cell? ⟨b, 3, none⟩ = some c3 ∧ w.cell? ⟨b, 4, none⟩ = some c4 ∧ w.cell? ⟨b, 5, none⟩ = some c5 ∧ w.cell? ⟨b, 6, none⟩ = some c6
theorem Box7.up {w w' : World} {b N : Nat} {c0 c1 c2 c3 c4 c5 c6 : Value} (h : Box7 w b c0 c1 c2 c3 c4 c5 c6) (hb : Below N w w') (hlt : b < N) : Box7 w' b c0 c1 c2 c3 c4 c5 c6 := by
  obtain ⟨h0, h1, h2, h3, h4, h5, h6⟩ := h
  have k : ∀ {o : Nat} {v : Value}, w.cell? ⟨b, o, none⟩ = some v → w'.cell? ⟨b, o, none⟩ = some v := fun {o v} hc => (hb.cell (p := ⟨b, o, none⟩) hlt).trans hc
  exact ⟨k h0, k h1, k h2, k h3, k h4, k h5, k h6⟩
theorem Box7.new {w w' : World} {c0 c1 c2 c3 c4 c5 c6 : Value} {t : TypeId} (hb : Below (w.alloc (.cells #[c0, c1, c2, c3, c4, c5, c6] t)).heap.size (w.alloc (.cells #[c0, c1, c2, c3, c4, c5, c6] t)) w') : Box7 w' w.heap.size c0 c1 c2 c3 c4 c5 c6 :=
  Box7.up (w := w.alloc (.cells #[c0, c1, c2, c3, c4, c5, c6] t)) ⟨by simp [go_sem], by simp [go_sem], by simp [go_sem], by simp [go_sem], by simp [go_sem], by simp [go_sem], by simp [go_sem]⟩ hb (by simp)

theorem keep7D {N : Nat} {W : World} {p : Nat} {c0 c1 c2 c3 c4 c5 c6 : Value} (h : Box7 W p c0 c1 c2 c3 c4 c5 c6) :
    Below N W W.drew ∧ W.drew.cell? ⟨p, 0, none⟩ = some c0 ∧ W.drew.cell? ⟨p, 1, none⟩ = some c1 ∧ W.drew.cell? ⟨p, 2, none⟩ = some c2 ∧ W.drew.cell? ⟨p, 3, none⟩ = some c3 ∧ W.drew.cell? ⟨p, 4, none⟩ = some c4 ∧ W.drew.cell? ⟨p, 5, none⟩ = some c5 ∧ W.drew.cell? ⟨p, 6, none⟩ = some c6 :=
  ⟨(Below.refl _ _).drew, h.1, h.2.1, h.2.2.1, h.2.2.2.1, h.2.2.2.2.1, h.2.2.2.2.2.1, h.2.2.2.2.2.2⟩
theorem keep7 {N : Nat} {wr W W2 : World} {p : Nat} {c0 c1 c2 c3 c4 c5 c6 : Value}
    (h : Below N wr W ∧ W.cell? ⟨p, 0, none⟩ = some c0 ∧ W.cell? ⟨p, 1, none⟩ = some c1 ∧ W.cell? ⟨p, 2, none⟩ = some c2 ∧ W.cell? ⟨p, 3, none⟩ = some c3 ∧ W.cell? ⟨p, 4, none⟩ = some c4 ∧ W.cell? ⟨p, 5, none⟩ = some c5 ∧ W.cell? ⟨p, 6, none⟩ = some c6)
    (h2 : Below W.heap.size W W2) (hN : N ≤ wr.heap.size) (hp : p < N) :
    Below N wr W2 ∧ W2.cell? ⟨p, 0, none⟩ = some c0 ∧ W2.cell? ⟨p, 1, none⟩ = some c1 ∧ W2.cell? ⟨p, 2, none⟩ = some c2 ∧ W2.cell? ⟨p, 3, none⟩ = some c3 ∧ W2.cell? ⟨p, 4, none⟩ = some c4 ∧ W2.cell? ⟨p, 5, none⟩ = some c5 ∧ W2.cell? ⟨p, 6, none⟩ = some c6 := by
  obtain ⟨h1, hb⟩ := h
  have hs := h1.size
  have k := Box7.up hb h2 (by omega)
  exact ⟨h1.trans (h2.mono (by omega)), k⟩
theorem keep1D {N : Nat} {W : World} {p o : Nat} {c0 : Value} (h : W.cell? ⟨p, o, none⟩ = some c0) : Below N W W.drew ∧ W.drew.cell? ⟨p, o, none⟩ = some c0 := ⟨(Below.refl _ _).drew, h⟩
theorem keep1 {N : Nat} {wr W W2 : World} {p o : Nat} {c0 : Value} (h : Below N wr W ∧ W.cell? ⟨p, o, none⟩ = some c0) (h2 : Below W.heap.size W W2) (hN : N ≤ wr.heap.size) (hp : p < N) :
    Below N wr W2 ∧ W2.cell? ⟨p, o, none⟩ = some c0 := by
  have hs := h.1.size
  exact ⟨h.1.trans (h2.mono (by omega)), (h2.cell (p := ⟨p, o, none⟩) (by show p < _; omega)).trans h.2⟩
def rgV (a : GAuto) (s : Int) (xs : List GRule) : Int := if autoOk a && gramOk xs && inR s 0 (a.states - 1) then endS a.next xs s.toNat else 0
def rgC (a : GAuto) (s : Int) (xs : List GRule) : Int := if autoOk a && gramOk xs then if inR s 0 (a.states - 1) then 0 else 2 else 1

set_option maxRecDepth 100000 in
set_option maxHeartbeats 2000000 in
theorem implRunGrammar_any (v vR : Value) (a : GAuto) (s : Int) (xs : List GRule) (w : World) (h : AutoV w w.heap.size v a) (hR : Sl RuleE w w.heap.size vR xs) (hn : xs.length ≤ 1099511627776) :
    Calls Try.prog 36 #[v, .int .i64 s, .agg #[vR]] w fun e w' => e = .returned (.tuple #[.int .i64 (rgV a s xs), .int .i64 (rgC a s xs)]) ∧ Below w.heap.size w w' := by
  have hB := fun o o' => ((Below.refl w.heap.size w).alloc (Nat.le_refl _) o).alloc (by simp) o'
  have HB := Lib.hid hB
  have HA := Lib.hid h
  have HR := Lib.hid hR
  clear hB
  obtain ⟨vF, vN, rfl, hF, hN⟩ := h
  obtain ⟨AF, cF, rfl, _⟩ := hF
  obtain ⟨AN, cN, rfl, _⟩ := hN
  obtain ⟨AR, cR, rfl, _⟩ := hR
  go_enter Try.func36, Try.ntmps36
  go_wp2_with fail
  refine (newRide_any _ _ a xs _ ((HA.out.below (HB.out _ _)).le (by first | omega | (simp; done) | (simp; omega))) ((HR.out.below (HB.out _ _)).le (by first | omega | (simp; done) | (simp; omega))) hn).mono ?_
  rintro e w1 ⟨hb1, hpost⟩
  have z1 : w.heap.size + 1 < w1.heap.size := Nat.lt_of_lt_of_le (by simp) hb1.size
  have A1 := Lib.hid (Box4.up (w := (w.alloc (Obj.cells #[.int .i64 a.states, .int .i64 a.start, .slice AF a.finals.length cF, .slice AN a.next.length cN] 35)).alloc (Obj.cells #[.slice AR xs.length cR] 56)) (b := w.heap.size) (c0 := .int .i64 a.states) (c1 := .int .i64 a.start) (c2 := .slice AF a.finals.length cF) (c3 := .slice AN a.next.length cN) ⟨by simp [go_sem], by simp [go_sem], by simp [go_sem], by simp [go_sem]⟩ hb1 (by simp; omega))
  have B1 := Lib.hid ((HB.out _ _).trans (hb1.mono (by simp; omega)))
  have HA1 := Lib.hid ((HA.out.below B1.out).le (B' := w1.heap.size) (by omega))
  clear hb1
  rcases hpost with ⟨ls, vr, hl, hg, ha, rfl, hr⟩ | ⟨hno, rfl⟩
  · have Hl := Lib.hid hl
    have Hg := Lib.hid hg
    have Ha := Lib.hid ha
    have Hr := Lib.hid hr
    obtain ⟨uF, uN, uR, uL, uM, rfl, k1, k2, k3, k4, k5⟩ := hr
    obtain ⟨B0, e0, rfl, _⟩ := k1
    obtain ⟨B1', e1, rfl, _⟩ := k2
    obtain ⟨B2', e2, rfl, _⟩ := k3
    obtain ⟨B3, e3, rfl, _⟩ := k4
    obtain ⟨B4, e4, rfl, _⟩ := k5
    obtain ⟨a0, a1, a2, a3⟩ := A1.out
    have z0 : w.heap.size < w1.heap.size := by omega
    clear hl hg ha
    go_wp2_with fail
    refine (isState_any _ a _ _ ((HA1.out.below ((Below.refl _ _).alloc (Nat.le_refl _) _)).le (by first | omega | (simp; done) | (simp; omega))) Ha.out).mono ?_
    rintro e w2 ⟨rfl, hb2⟩
    have R2 := Lib.hid (Box7.new hb2)
    have z2 : w1.heap.size < w2.heap.size := Nat.lt_of_lt_of_le (by simp) hb2.size
    have b12 := ((Below.refl w1.heap.size w1).alloc (Nat.le_refl _) _).trans (hb2.mono (by simp))
    have Hr2 := Lib.hid (Hr.out.up b12)
    have B2 := Lib.hid (B1.out.trans (b12.mono (by omega)))
    clear hb2 b12 a0 a1 a2 a3
    by_cases c3 : inR s 0 (a.states - 1) = true
    · have C3 := Lib.hid c3
      have g3 : (!inR s 0 (a.states - 1)) = false := by simp [c3]
      have hs0 : 0 ≤ s ∧ s ≤ a.states - 1 := by simpa [inR] using c3
      have hs1 : s.toNat < a.next.length := by have := (autoOk_get Ha.out).2.2.1; omega
      obtain ⟨t, rfl⟩ := Int.eq_ofNat_of_zero_le hs0.1
      rw [Int.toNat_natCast] at hs1
      clear c3 hs0
      obtain ⟨r0, r1, r2, r3, r4, r5, r6⟩ := R2.out
      have KB := R2.out
      have q1 : w2.heap.size ≤ w2.heap.size := Nat.le_refl _
      go_wp2_with fail
      go_region_held3 (fun w' => Below w2.heap.size w2 w' ∧ w'.cell? ⟨w1.heap.size, 0, none⟩ = some (.int .i64 a.states) ∧ w'.cell? ⟨w1.heap.size, 1, none⟩ = some (.int .i64 a.start) ∧ w'.cell? ⟨w1.heap.size, 2, none⟩ = some (.slice B0 a.finals.length e0) ∧ w'.cell? ⟨w1.heap.size, 3, none⟩ = some (.slice B1' a.next.length e1) ∧ w'.cell? ⟨w1.heap.size, 4, none⟩ = some (.slice B2' xs.length e2) ∧ w'.cell? ⟨w1.heap.size, 5, none⟩ = some (.slice B3 ls.length e3) ∧ w'.cell? ⟨w1.heap.size, 6, none⟩ = some (.slice B4 (mapsOf a.next xs).length e4))
        (first | (with_reducible exact keep7D KB) | (with_reducible exact keep7 (keep7D KB) hb3 q1 z2) | (with_reducible exact keep7 (keep7 (keep7D KB) hb3 q1 z2) hb4 q1 z2))
        (first
          | (go_at_call 87; refine (rideLength_any _ a xs ls _ (Hr2.out.up (Below.drew (Below.refl _ _)))).mono ?_; rintro e w3 ⟨rfl, hb3⟩)
          | (go_at_call 86; refine (after_any _ a xs ls t _ _ _ ((Hr2.out.up (Below.drew (Below.refl _ _))).up hb3) Ha.out Hl.out hn hs1).mono ?_; rintro e w4 ⟨rfl, hb4⟩))
      have B4 := Lib.hid (B2.out.trans (((Below.drew (Below.refl w2.heap.size w2)).trans (hb3.trans (hb4.mono hb3.size))).mono B2.out.size))
      clear hb3 hb4 KB r0 r1 r2 r3 r4 r5 r6
      go_wp2_with fail
      go_ret2
      exact ⟨by rw [fold_all Hl.out]; simp [rgV, rgC, Ha.out, Hg.out, C3.out], B4.out⟩
    · have c3' : inR s 0 (a.states - 1) = false := by simpa using c3
      have C3 := Lib.hid c3'
      have g3 : (!inR s 0 (a.states - 1)) = true := by simp [c3]
      clear c3 c3'
      go_wp2_with fail
      go_ret2
      exact ⟨by simp [rgV, rgC, Ha.out, Hg.out, C3.out], B2.out⟩
  · have Hno := Lib.hid hno
    clear hno
    go_wp2_with fail
    go_ret2
    exact ⟨by simp only [rgV, rgC, Hno.out]; simp, (by repeat (first | exact B1.out | (refine Below.alloc ?_ (by first | omega | (simp; done) | (simp; omega)) _) | refine below_drewN ?_ _ | refine Below.drew ?_))⟩

set_option maxRecDepth 100000 in
set_option maxHeartbeats 1000000 in
theorem l04End_any (vN vR : Value) (bg og : Nat) (a : GAuto) (xs : List GRule) (ls : List Int) (s : Nat) (w : World) (hN : Sl (SliceE IntE) w w.heap.size vN a.next) (hR : Sl RuleE w w.heap.size vR xs) (ha : autoOk a = true) (hl : lens xs = some ls) (hn : xs.length ≤ 1099511627776)
    (hp : w.cell? ⟨bg, og, none⟩ = some vR) (hbg : bg < w.heap.size) (hs : s < a.next.length) :
    Calls Try.prog 84 #[vN, .pointer (some ⟨bg, og, none⟩), .int .i64 s] w fun e w' => e = .returned (.int .i64 (endS a.next xs s : Nat)) ∧ Below w.heap.size w w' := by
  have HN := Lib.hid hN
  have HR := Lib.hid hR
  have Ha := Lib.hid ha
  have Hl := Lib.hid hl
  obtain ⟨AN, cN, rfl, _⟩ := hN
  obtain ⟨AR, cR, rfl, _⟩ := hR
  clear ha hl
  by_cases h0 : xs.length = 0
  · have g0 : ((xs.length : Int) == 0) = true := by simp [h0]
    have H0 := Lib.hid h0
    clear h0
    go_enter Try.func84, Try.ntmps84
    go_wp2_with fail
    go_ret
    exact ⟨ret_int (by rw [endS, if_pos H0.out]), Below.refl _ _⟩
  · have g0 : ((xs.length : Int) == 0) = false := by rw [beq_eq_false_iff_ne]; omega
    have H0 := Lib.hid h0
    go_enter Try.func84, Try.ntmps84
    have q1 : w.heap.size ≤ w.heap.size := Nat.le_refl _
    have hk : ((xs.length : Int) - 1).toNat = xs.length - 1 := by omega
    have hk0 : 0 ≤ (xs.length : Int) - 1 := by omega
    have hkm : (xs.length : Int) - 1 < ((mapsOf a.next xs).length : Int) := by rw [mapsOf_len]; omega
    have hsn : (s : Int) < (a.next.length : Int) := by omega
    have hwr : IntKind.i64.wrap ((xs.length : Int) - 1) = (xs.length : Int) - 1 := IntWalk.i64_in _ (by omega)
    have hok := mapsOf_ok Ha.out Hl.out xs.length (Nat.le_refl _)
    rw [List.take_length] at hok
    have hml := mapsOf_len a.next xs
    have Hok := Lib.hid (hok (xs.length - 1) (by omega))
    have Hml := Lib.hid hml
    have hst : ((mapsOf a.next xs).getD (xs.length - 1) []).getD s 0 = ((endS a.next xs s : Nat) : Int) := by
      have := (Hok.out.2 s hs).1
      rw [endS, if_neg H0.out, stepM]; omega
    have Hst := Lib.hid hst
    have hx0 : 0 < xs.length := by omega
    clear hok hml hst h0
    go_wp2_with fail
    have hpd : w.drew.cell? ⟨bg, og, none⟩ = some (.slice AR xs.length cR) := hp
    go_region_with (go_at_call 93; refine (l04Maps_any _ _ _ _ a xs ls _ (HN.out.up (Below.drew (Below.refl _ _))) (HR.out.up (Below.drew (Below.refl _ _))) Ha.out Hl.out hn hp hbg).mono ?_; rintro e w1 ⟨vM, rfl, hM, hb1⟩; have hp1 := (hb1.cell (p := ⟨bg, og, none⟩) hbg).trans hpd; obtain ⟨AM, cM, rfl, _, _, hrow⟩ := hM; obtain ⟨b, o, rfl, hbb, hcells⟩ := cells2 hrow (by rw [Hml.out]; exact hx0); obtain ⟨b', o', c', d1, d2, d3⟩ := hcells (xs.length - 1) s (by rw [Hml.out]; omega) (by rw [Hok.out.1]; exact hs); rw [Hok.out.1] at d1; rw [Hst.out] at d3; clear hcells hrow)
    all_goals
      have Hb1 := Lib.hid ((Below.drew (Below.refl w.heap.size w)).trans hb1)
      clear hwr hb1
      go_wp2_with fail
      go_ret
      exact ⟨rfl, Hb1.out⟩

set_option maxRecDepth 100000 in
set_option maxHeartbeats 2000000 in
theorem specRunGrammar_any (v vR : Value) (a : GAuto) (s : Int) (xs : List GRule) (w : World) (h : AutoV w w.heap.size v a) (hR : Sl RuleE w w.heap.size vR xs) (hsm : SmallL xs) (hn : xs.length ≤ 1099511627776) :
    Calls Try.prog 35 #[v, .int .i64 s, .agg #[vR]] w fun e w' => e = .returned (.tuple #[.int .i64 (rgV a s xs), .int .i64 (rgC a s xs)]) ∧ Below w.heap.size w w' := by
  have hB := fun o o' => ((Below.refl w.heap.size w).alloc (Nat.le_refl _) o).alloc (by simp) o'
  have HB := Lib.hid hB
  have HR := Lib.hid hR
  clear hB
  obtain ⟨vF, vN, rfl, hF, hN⟩ := h
  have HF := Lib.hid hF
  have HN := Lib.hid hN
  obtain ⟨AF, cF, rfl, _⟩ := hF
  obtain ⟨AN, cN, rfl, _⟩ := hN
  obtain ⟨AR, cR, rfl, _⟩ := hR
  go_enter Try.func35, Try.ntmps35
  go_wp2_with fail
  refine (l04Ok_any _ _ _ _ a _ (by simp [go_sem]) (by simp [go_sem]) (by simp [go_sem]) (by simp [go_sem]) ((HF.out.below (HB.out _ _)).le (by first | omega | (simp; done) | (simp; omega))) ((HN.out.below (HB.out _ _)).le (by first | omega | (simp; done) | (simp; omega)))).mono ?_
  rintro e w1 ⟨rfl, hw1⟩
  have hb1 := drewN_below hw1
  have z1 : w.heap.size + 1 < w1.heap.size := Nat.lt_of_lt_of_le (by simp) hb1.size
  have z0 : w.heap.size < w1.heap.size := by omega
  have A1 := Lib.hid (Box4.up (w := (w.alloc (Obj.cells #[.int .i64 a.states, .int .i64 a.start, .slice AF a.finals.length cF, .slice AN a.next.length cN] 35)).alloc (Obj.cells #[.slice AR xs.length cR] 56)) (b := w.heap.size) (c0 := .int .i64 a.states) (c1 := .int .i64 a.start) (c2 := .slice AF a.finals.length cF) (c3 := .slice AN a.next.length cN) ⟨by simp [go_sem], by simp [go_sem], by simp [go_sem], by simp [go_sem]⟩ hb1 (by simp; omega))
  have y1 : w1.cell? ⟨w.heap.size + 1, 0, none⟩ = some (.slice AR xs.length cR) := (hb1.cell (p := ⟨w.heap.size + 1, 0, none⟩) (by simp)).trans (by simp [go_sem])
  have B1 := Lib.hid ((HB.out _ _).trans (hb1.mono (by simp; omega)))
  clear hb1 hw1
  by_cases c1 : autoOk a = true
  · have C1 := Lib.hid c1
    have g1 : (!autoOk a) = false := by simp [c1]
    obtain ⟨k1, k2, k3, _⟩ := autoOk_get c1
    have K3 := Lib.hid k3
    clear c1 k3
    go_wp2_with fail
    refine (l02Ok_any _ _ _ xs _ y1 z1 ((HR.out.below B1.out).le (by omega)) hsm).mono ?_
    rintro e w2 ⟨rfl, hb2⟩
    have z2 : w.heap.size + 1 < w2.heap.size := by have := hb2.size; omega
    have A2 := Lib.hid (A1.out.up hb2 z0)
    have y2 := (hb2.cell (p := ⟨w.heap.size + 1, 0, none⟩) z1).trans y1
    have B2 := Lib.hid (B1.out.trans (hb2.mono (by omega)))
    clear hb2 y1
    by_cases c2 : gramOk xs = true
    · have C2 := Lib.hid c2
      have g2 : (!gramOk xs) = false := by simp [c2]
      obtain ⟨_, ls, hl⟩ := gram_lens c2
      have Hl := Lib.hid hl
      clear c2 hl
      obtain ⟨a0, a1, a2, a3⟩ := A2.out
      by_cases c3 : inR s 0 (a.states - 1) = true
      · have C3 := Lib.hid c3
        have hs0 : 0 ≤ s ∧ s ≤ a.states - 1 := by simpa [inR] using c3
        have hs1 : s.toNat < a.next.length := by have := K3.out; omega
        obtain ⟨t, rfl⟩ := Int.eq_ofNat_of_zero_le hs0.1
        rw [Int.toNat_natCast] at hs1
        clear c3 hs0
        go_wp2_with fail
        refine (l00In_yes _ _ _ _ C3.out).mono ?_
        rintro e w3 ⟨rfl, rfl⟩
        go_wp2_with fail
        refine (l04End_any _ _ _ _ a xs ls t _ ((HN.out.below B2.out).le (by omega)) ((HR.out.below B2.out).le (by omega)) C1.out Hl.out hn y2 z2 hs1).mono ?_
        rintro e w4 ⟨rfl, hb4⟩
        go_wp2_with fail
        go_ret2
        exact ⟨by simp [rgV, rgC, C1.out, C2.out, C3.out], B2.out.trans (hb4.mono (by omega))⟩
      · have c3' : inR s 0 (a.states - 1) = false := by simpa using c3
        have C3 := Lib.hid c3'
        clear c3 c3'
        go_wp2_with fail
        refine (l00In_no _ _ _ _ C3.out).mono ?_
        rintro e w3 ⟨rfl, rfl⟩
        go_wp2_with fail
        go_ret2
        exact ⟨by simp [rgV, rgC, C1.out, C2.out, C3.out], B2.out⟩
    · have c2' : gramOk xs = false := by simpa using c2
      have C2 := Lib.hid c2'
      have g2 : (!gramOk xs) = true := by simp [c2]
      clear c2 c2'
      go_wp2_with fail
      go_ret2
      exact ⟨by simp [rgV, rgC, C1.out, C2.out], B2.out⟩
  · have c1' : autoOk a = false := by simpa using c1
    have C1 := Lib.hid c1'
    have g1 : (!autoOk a) = true := by simp [c1]
    clear c1 c1'
    go_wp2_with fail
    go_ret2
    exact ⟨by simp [rgV, rgC, C1.out], B1.out⟩
end Go.Proofs.Ythidgjdjijjkoaa
