import Derived.Test.YthidgjdjijjkoaaAfter
import Derived.Test.YthidgjdjijjkoaaLen
namespace Go.Proofs.Ythidgjdjijjkoaa
open Go.RowKit

/-- What StateAfter answers. -/
def saC (a : GAuto) (n : Int) (xs : List GRule) : Int := if autoOk a && gramOk xs then if inR n 0 (gramLen xs) then 0 else 2 else 1
def saV (a : GAuto) (n : Int) (xs : List GRule) : Int := if saC a n xs = 0 then ((aftR xs ((lens xs).getD []) xs.length (xs.length - 1) n).foldl (stepM (mapsOf a.next xs)) a.start.toNat : Nat) else 0
theorem aft_pieces {xs : List GRule} {ls : List Int} (hl : lens xs = some ls) {n : Int} (hn : n ≤ lastI ls) : piecesL xs ls 0 n = aftR xs ls xs.length (xs.length - 1) n := by
  by_cases hx : 0 < xs.length
  · exact pieces_aft hl hn hx
  · have e : xs.length = 0 := by omega
    rw [e, aftR, piecesL, if_neg (by omega)]

theorem l04After_anyI (bg og : Nat) (vL vM vR : Value) (xs : List GRule) (ls : List Int) (maps : List (List Int)) (n T : Nat) (r : Int) (s : Nat) (q m : Int) (w : World) (hq : q = (s : Int)) (hl : lens xs = some ls) (hok : RowsOk n maps) (hml : maps.length = xs.length)
    (hL : Sl IntE w w.heap.size vL ls) (hM : Sl (SliceE IntE) w w.heap.size vM maps) (hR : Sl RuleE w w.heap.size vR xs) (hp : w.cell? ⟨bg, og, none⟩ = some vR) (hbg : bg < w.heap.size) (hi : AftInv xs ls maps n T r s m) :
    Calls Try.prog 92 #[.pointer (some ⟨bg, og, none⟩), vL, vM, .int .i64 r, .int .i64 q, .int .i64 m] w fun e w' => e = .returned (.int .i64 (T : Nat)) ∧ Below w.heap.size w w' := by
  subst hq; exact l04After_any bg og vL vM vR xs ls maps n T r s m w hl hok hml hL hM hR hp hbg hi
theorem keepG3 {wr W W2 : World} {p q r : Addr} {a b c : Value} (h : Below wr.heap.size wr W ∧ W.cell? p = some a ∧ W.cell? q = some b ∧ W.cell? r = some c) (h2 : Below W.heap.size W W2)
    (hp : p.block < wr.heap.size) (hq : q.block < wr.heap.size) (hr : r.block < wr.heap.size) : Below wr.heap.size wr W2 ∧ W2.cell? p = some a ∧ W2.cell? q = some b ∧ W2.cell? r = some c :=
  ⟨h.1.trans (h2.mono h.1.size), (h2.cell (Nat.lt_of_lt_of_le hp h.1.size)).trans h.2.1, (h2.cell (Nat.lt_of_lt_of_le hq h.1.size)).trans h.2.2.1, (h2.cell (Nat.lt_of_lt_of_le hr h.1.size)).trans h.2.2.2⟩
set_option maxRecDepth 100000 in
set_option maxHeartbeats 2000000 in
theorem implStateAfter_any (v vR : Value) (a : GAuto) (n : Int) (xs : List GRule) (w : World) (h : AutoV w w.heap.size v a) (hR : Sl RuleE w w.heap.size vR xs) (hn : xs.length ≤ 1099511627776) :
    Calls Try.prog 40 #[v, .agg #[vR], .int .i64 n] w fun e w' => e = .returned (.tuple #[.int .i64 (saV a n xs), .int .i64 (saC a n xs)]) ∧ Below w.heap.size w w' := by
  have hB := fun o o' => ((Below.refl w.heap.size w).alloc (Nat.le_refl _) o).alloc (by simp) o'
  have HB := Lib.hid hB
  have HA := Lib.hid h
  have HR := Lib.hid hR
  clear hB
  obtain ⟨vF, vN, rfl, hF, hN⟩ := h
  have HF := Lib.hid hF
  obtain ⟨AF, cF, rfl, _⟩ := hF
  obtain ⟨AN, cN, rfl, _⟩ := hN
  obtain ⟨AR, cR, rfl, _⟩ := hR
  go_enter Try.func40, Try.ntmps40
  go_wp2_with fail
  refine (newRide_any _ _ a xs _ ((HA.out.below (HB.out _ _)).le (by first | omega | (simp; done) | (simp; omega))) ((HR.out.below (HB.out _ _)).le (by first | omega | (simp; done) | (simp; omega))) hn).mono ?_
  rintro e w1 ⟨hb1, hpost⟩
  have z1 : w.heap.size + 1 < w1.heap.size := Nat.lt_of_lt_of_le (by simp) hb1.size
  have A1 := Lib.hid (Box4.up (w := (w.alloc (Obj.cells #[.int .i64 a.states, .int .i64 a.start, .slice AF a.finals.length cF, .slice AN a.next.length cN] 35)).alloc (Obj.cells #[.slice AR xs.length cR] 56)) (b := w.heap.size) (c0 := .int .i64 a.states) (c1 := .int .i64 a.start) (c2 := .slice AF a.finals.length cF) (c3 := .slice AN a.next.length cN) ⟨by simp [go_sem], by simp [go_sem], by simp [go_sem], by simp [go_sem]⟩ hb1 (by simp; omega))
  have B1 := Lib.hid ((HB.out _ _).trans (hb1.mono (by simp; omega)))
  clear hb1
  rcases hpost with ⟨ls, vr, hl, hg, ha, rfl, hr⟩ | ⟨hno, rfl⟩
  · have Hl := Lib.hid hl
    have Hg := Lib.hid hg
    have Ha := Lib.hid ha
    obtain ⟨p0, p1⟩ := autoOk_start ha
    have et : a.start = (a.start.toNat : Int) := by omega
    have Et := Lib.hid et
    have ht : a.start.toNat < a.next.length := by omega
    have z0 : w.heap.size < w1.heap.size := by omega
    have Hr := Lib.hid hr
    obtain ⟨uF, uN, uR, uL, uM, rfl, k1, k2, k3, k4, k5⟩ := hr
    obtain ⟨B0, e0, rfl, _⟩ := k1
    obtain ⟨B1', e1, rfl, _⟩ := k2
    obtain ⟨B2', e2, rfl, _⟩ := k3
    obtain ⟨B3, e3, rfl, _⟩ := k4
    obtain ⟨B4, e4, rfl, _⟩ := k5
    clear hl hg ha et p0 p1
    have b12 := (Below.refl w1.heap.size w1).alloc (Nat.le_refl _) (Obj.cells #[.int .i64 a.states, .int .i64 a.start, .slice B0 a.finals.length e0, .slice B1' a.next.length e1, .slice B2' xs.length e2, .slice B3 ls.length e3, .slice B4 (mapsOf a.next xs).length e4] 121)
    have R2 := Lib.hid (Box7.new (w := w1) (c0 := .int .i64 a.states) (c1 := .int .i64 a.start) (c2 := .slice B0 a.finals.length e0) (c3 := .slice B1' a.next.length e1) (c4 := .slice B2' xs.length e2) (c5 := .slice B3 ls.length e3) (c6 := .slice B4 (mapsOf a.next xs).length e4) (t := 121) (Below.refl _ _))
    have z2 : w1.heap.size < (w1.alloc (Obj.cells #[.int .i64 a.states, .int .i64 a.start, .slice B0 a.finals.length e0, .slice B1' a.next.length e1, .slice B2' xs.length e2, .slice B3 ls.length e3, .slice B4 (mapsOf a.next xs).length e4] 121)).heap.size := by simp
    go_wp2_with fail
    revert b12 R2 z2
    generalize w1.alloc (Obj.cells #[.int .i64 a.states, .int .i64 a.start, .slice B0 a.finals.length e0, .slice B1' a.next.length e1, .slice B2' xs.length e2, .slice B3 ls.length e3, .slice B4 (mapsOf a.next xs).length e4] 121) = w2
    intro b12 R2 z2
    have z20 : w.heap.size < w2.heap.size := by omega
    have Hr2 := Lib.hid (Hr.out.up b12)
    have A2 := Lib.hid (A1.out.up b12 z0)
    have B2 := Lib.hid (B1.out.trans (b12.mono (by omega)))
    clear b12
    refine (rideLength_any _ a xs ls _ Hr2.out).mono ?_
    rintro e w3 ⟨rfl, hb3⟩
    have z3 : w1.heap.size < w3.heap.size := Nat.lt_of_lt_of_le z2 hb3.size
    have z30 : w.heap.size < w3.heap.size := by omega
    have R3 := Lib.hid (R2.out.up hb3 z2)
    have A3 := Lib.hid (A2.out.up hb3 z20)
    have Hr3 := Lib.hid (Hr2.out.up hb3)
    have B3' := Lib.hid (B2.out.trans (hb3.mono (by omega)))
    clear hb3
    by_cases c3 : inR n 0 (lastI ls) = true
    · have C3 := Lib.hid c3
      have hn0 : 0 ≤ n ∧ n ≤ lastI ls := by simpa [inR] using c3
      have Hn := Lib.hid hn0
      clear c3 hn0
      go_wp2_with fail
      refine (within_yes _ _ _ _ C3.out).mono ?_
      rintro e w4 ⟨rfl, rfl⟩
      obtain ⟨r0, r1, r2, r3, r4, r5, r6⟩ := R3.out
      obtain ⟨a0, a1, a2, a3⟩ := A3.out
      go_wp2_with fail
      refine (after_anyI _ a xs ls a.start.toNat _ _ _ _ Et.out Hr3.out Ha.out Hl.out hn ht).mono ?_
      rintro e w4 ⟨rfl, hb4⟩
      have B4' := Lib.hid (B3'.out.trans (hb4.mono (by omega)))
      clear hb4 r0 r1 r2 r3 r4 r5 r6 a0 a1 a2 a3
      go_wp2_with fail
      go_ret2
      have hc : saC a n xs = 0 := by simp [saC, Ha.out, Hg.out, gramLen_of Hl.out, C3.out]
      exact ⟨by rw [aft_pieces Hl.out Hn.out.2, saV, if_pos hc, hc, Hl.out]; rfl, B4'.out⟩
    · have c3' : inR n 0 (lastI ls) = false := by simpa using c3
      have C3 := Lib.hid c3'
      clear c3 c3'
      go_wp2_with fail
      refine (within_no _ _ _ _ C3.out).mono ?_
      rintro e w4 ⟨rfl, rfl⟩
      go_wp2_with fail
      go_ret2
      have hc : saC a n xs = 2 := by simp [saC, Ha.out, Hg.out, gramLen_of Hl.out, C3.out]
      exact ⟨by simp [saV, hc], B3'.out⟩
  · have Hno := Lib.hid hno
    clear hno
    go_wp2_with fail
    go_ret2
    have hc : saC a n xs = 1 := by simp only [saC, Hno.out]; simp
    exact ⟨by simp [saV, hc], (by repeat (first | exact B1.out | (refine Below.alloc ?_ (by first | omega | (simp; done) | (simp; omega)) _) | refine below_drewN ?_ _ | refine Below.drew ?_))⟩

set_option maxRecDepth 100000 in
set_option maxHeartbeats 2000000 in
theorem specStateAfter_any (v vR : Value) (a : GAuto) (n : Int) (xs : List GRule) (w : World) (h : AutoV w w.heap.size v a) (hR : Sl RuleE w w.heap.size vR xs) (hsm : SmallL xs) (hn : xs.length ≤ 1099511627776) :
    Calls Try.prog 39 #[v, .agg #[vR], .int .i64 n] w fun e w' => e = .returned (.tuple #[.int .i64 (saV a n xs), .int .i64 (saC a n xs)]) ∧ Below w.heap.size w w' := by
  have hB := fun o o' => ((Below.refl w.heap.size w).alloc (Nat.le_refl _) o).alloc (by simp) o'
  have HB := Lib.hid hB
  have HR := Lib.hid hR
  clear hB
  obtain ⟨vF, vN, rfl, hF, hN⟩ := h
  have HF := Lib.hid hF
  have HN := Lib.hid hN
  obtain ⟨AF, cF, rfl, _⟩ := hF
  obtain ⟨AN, cN, rfl, _⟩ := hN
  obtain ⟨AR, cR, rfl, _⟩ := hR
  go_enter Try.func39, Try.ntmps39
  go_wp2_with fail
  refine (l04Ok_any _ _ _ _ a _ (by simp [go_sem]) (by simp [go_sem]) (by simp [go_sem]) (by simp [go_sem]) ((HF.out.below (HB.out _ _)).le (by first | omega | (simp; done) | (simp; omega))) ((HN.out.below (HB.out _ _)).le (by first | omega | (simp; done) | (simp; omega)))).mono ?_
  rintro e w1 ⟨rfl, hw1⟩
  have hb1 := drewN_below hw1
  have z1 : w.heap.size + 1 < w1.heap.size := Nat.lt_of_lt_of_le (by simp) hb1.size
  have z0 : w.heap.size < w1.heap.size := by omega
  have A1 := Lib.hid (Box4.up (w := (w.alloc (Obj.cells #[.int .i64 a.states, .int .i64 a.start, .slice AF a.finals.length cF, .slice AN a.next.length cN] 35)).alloc (Obj.cells #[.slice AR xs.length cR] 56)) (b := w.heap.size) (c0 := .int .i64 a.states) (c1 := .int .i64 a.start) (c2 := .slice AF a.finals.length cF) (c3 := .slice AN a.next.length cN) ⟨by simp [go_sem], by simp [go_sem], by simp [go_sem], by simp [go_sem]⟩ hb1 (by simp; omega))
  have y1 : w1.cell? ⟨w.heap.size + 1, 0, none⟩ = some (.slice AR xs.length cR) := (hb1.cell (p := ⟨w.heap.size + 1, 0, none⟩) (by simp)).trans (by simp [go_sem])
  have B1 := Lib.hid ((HB.out _ _).trans (hb1.mono (by simp; omega)))
  clear hb1 hw1
  by_cases c1 : autoOk a = true
  · have C1 := Lib.hid c1
    have g1 : (!autoOk a) = false := by simp [c1]
    obtain ⟨p0, p1⟩ := autoOk_start c1
    have et : a.start = (a.start.toNat : Int) := by omega
    have Et := Lib.hid et
    have ht : a.start.toNat < a.next.length := by omega
    clear c1 et p0 p1
    go_wp2_with fail
    refine (l02Ok_any _ _ _ xs _ y1 z1 ((HR.out.below B1.out).le (by omega)) hsm).mono ?_
    rintro e w2 ⟨rfl, hb2⟩
    have z2 : w.heap.size + 1 < w2.heap.size := by have := hb2.size; omega
    have z20 : w.heap.size < w2.heap.size := by omega
    have A2 := Lib.hid (A1.out.up hb2 z0)
    have y2 := (hb2.cell (p := ⟨w.heap.size + 1, 0, none⟩) z1).trans y1
    have B2 := Lib.hid (B1.out.trans (hb2.mono (by omega)))
    clear hb2 y1
    by_cases c2 : gramOk xs = true
    · have C2 := Lib.hid c2
      have g2 : (!gramOk xs) = false := by simp [c2]
      obtain ⟨hx400, ls, hl⟩ := gram_lens c2
      have Hl := Lib.hid hl
      have h400 : decide (xs.length ≤ 400) = true := by simp [hx400]
      have H400 := Lib.hid h400
      clear c2 hl h400
      go_wp2_with fail
      refine (l02Length_any _ _ _ xs ls _ Hl.out y2 z2 ((HR.out.below B2.out).le (by omega)) hsm hn).mono ?_
      rintro e w3 ⟨rfl, hb3⟩
      have z3 : w.heap.size + 1 < w3.heap.size := by have := hb3.size; omega
      have z30 : w.heap.size < w3.heap.size := by omega
      have A3 := Lib.hid (A2.out.up hb3 z20)
      have y3 := (hb3.cell (p := ⟨w.heap.size + 1, 0, none⟩) z2).trans y2
      have B3 := Lib.hid (B2.out.trans (hb3.mono (by omega)))
      clear hb3 y2
      by_cases c3 : inR n 0 (lastI ls) = true
      · have C3 := Lib.hid c3
        have hn0 : 0 ≤ n ∧ n ≤ lastI ls := by simpa [inR] using c3
        have Hn := Lib.hid hn0
        clear c3 hn0
        go_wp2_with fail
        refine (l00In_yes _ _ _ _ C3.out).mono ?_
        rintro e w4 ⟨rfl, rfl⟩
        go_wp2_with fail
        refine (l02Lengths_any _ _ _ xs _ y3 z3 ((HR.out.below B3.out).le (by omega)) hsm).mono ?_
        rintro e w4 ⟨hb4, v4, ls', rfl, own4, hls⟩
        have e4 : ls' = ls := hls hx400 ls Hl.out
        subst e4
        have z4 : w.heap.size + 1 < w4.heap.size := by have := hb4.size; omega
        have z40 : w.heap.size < w4.heap.size := by omega
        have A4 := Lib.hid (A3.out.up hb4 z30)
        have y4 := (hb4.cell (p := ⟨w.heap.size + 1, 0, none⟩) z3).trans y3
        have B4 := Lib.hid (B3.out.trans (hb4.mono (by omega)))
        have HL4 := Lib.hid own4.sl
        obtain ⟨AL, cL, rfl, _⟩ := own4.sl
        clear hb4 y3 hls own4
        have HN4 : Hid (Sl (SliceE IntE) w4 w4.heap.size (.slice AN a.next.length cN) a.next) := (HN.out.below B4.out).le (by omega)
        have HR4 : Hid (Sl RuleE w4 w4.heap.size (.slice AR xs.length cR) xs) := (HR.out.below B4.out).le (by omega)
        obtain ⟨a0, a1, a2, a3⟩ := A4.out
        have Y4 := Lib.hid (show w4.drew.cell? ⟨w.heap.size + 1, 0, none⟩ = _ from y4)
        have Z4 := Lib.hid (show w.heap.size + 1 < w4.drew.heap.size from z4)
        have hok := mapsOf_ok C1.out Hl.out xs.length (Nat.le_refl _)
        rw [List.take_length] at hok
        have Hok := Lib.hid hok
        have Hml := Lib.hid (mapsOf_len a.next xs)
        have hinv : AftInv xs ls' (mapsOf a.next xs) a.next.length ((aftR xs ls' xs.length (xs.length - 1) n).foldl (stepM (mapsOf a.next xs)) a.start.toNat) ((xs.length : Int) - 1) a.start.toNat n := by
          refine ⟨ht, ?_⟩
          by_cases c : n ≤ 0
          · left; rw [aftR_done _ _ _ _ c]; exact ⟨c, rfl⟩
          · right
            have hll := lens_length Hl.out
            have h0 : 0 < xs.length := by
              refine Nat.pos_of_ne_zero fun h => ?_
              have := Hn.out.2
              rw [lastI, hll, h] at this
              have e : ls' = [] := List.eq_nil_of_length_eq_zero (by omega)
              rw [e] at this; simp at this; omega
            refine ⟨by omega, xs.length - 1, xs.length, by omega, by omega, by omega, ?_, rfl⟩
            have := Hn.out.2
            rw [lastI, hll] at this; exact this
        have Hinv := Lib.hid hinv
        obtain ⟨T, hT⟩ : ∃ T, (aftR xs ls' xs.length (xs.length - 1) n).foldl (stepM (mapsOf a.next xs)) a.start.toNat = T := ⟨_, rfl⟩
        rw [hT] at Hinv
        have HT := Lib.hid hT
        have E1 := Et
        have hwr : IntKind.i64.wrap ((xs.length : Int) - 1) = (xs.length : Int) - 1 := IntWalk.i64_in _ (by omega)
        have y4' : w4.drew.cell? ⟨w.heap.size + 1, 0, none⟩ = some (.slice AR xs.length cR) := y4
        have KB := And.intro (drewB (w := w4)) (And.intro (show w4.drew.cell? ⟨w.heap.size, 1, none⟩ = _ from a1) (And.intro (show w4.drew.cell? ⟨w.heap.size, 3, none⟩ = _ from a3) y4'))
        clear hok hinv hT
        go_wp2_with fail
        go_region_held3 (fun w' => Below w4.heap.size w4 w' ∧ w'.cell? ⟨w.heap.size, 1, none⟩ = some (.int .i64 a.start) ∧ w'.cell? ⟨w.heap.size, 3, none⟩ = some (.slice AN a.next.length cN) ∧ w'.cell? ⟨w.heap.size + 1, 0, none⟩ = some (.slice AR xs.length cR))
          (first | (with_reducible exact KB) | (with_reducible exact keepG3 KB hb5 z40 z40 z4) | (with_reducible exact keepG3 (keepG3 KB hb5 z40 z40 z4) hb6 z40 z40 z4))
          (first
            | (go_at_call 93; refine (l04Maps_any _ _ _ _ a xs ls' _ (HN4.out.up drewB) (HR4.out.up drewB) C1.out Hl.out hn Y4.out Z4.out).mono ?_; rintro e w5 ⟨vM, rfl, hM, hb5⟩)
            | (go_at_call 92; refine (l04After_anyI _ _ _ _ _ xs ls' (mapsOf a.next xs) a.next.length T _ a.start.toNat _ _ _ Et.out Hl.out Hok.out Hml.out ((HL4.out.up drewB).up hb5) (hM.more fun _ h => h.2) ((HR4.out.up drewB).up hb5) (keepG3 KB hb5 z40 z40 z4).2.2.2 (Nat.lt_of_lt_of_le z4 hb5.size) Hinv.out).mono ?_; rintro e w6 ⟨rfl, hb6⟩))
        have B6 := Lib.hid (B4.out.trans (((drewB (w := w4)).trans (hb5.trans (hb6.mono hb5.size))).mono (by omega)))
        clear KB hb5 hb6 a0 a1 a2 a3 hM
        go_wp2_with fail
        go_ret2
        have hc : saC a n xs = 0 := by simp [saC, C1.out, C2.out, gramLen_of Hl.out, C3.out]
        exact ⟨by simp [saV, hc, Hl.out, HT.out], B6.out⟩
      · have c3' : inR n 0 (lastI ls) = false := by simpa using c3
        have C3 := Lib.hid c3'
        clear c3 c3'
        go_wp2_with fail
        refine (l00In_no _ _ _ _ C3.out).mono ?_
        rintro e w4 ⟨rfl, rfl⟩
        go_wp2_with fail
        go_ret2
        have hc : saC a n xs = 2 := by simp [saC, C1.out, C2.out, gramLen_of Hl.out, C3.out]
        exact ⟨by simp [saV, hc], B3.out⟩
    · have c2' : gramOk xs = false := by simpa using c2
      have C2 := Lib.hid c2'
      have g2 : (!gramOk xs) = true := by simp [c2]
      clear c2 c2'
      go_wp2_with fail
      go_ret2
      have hc : saC a n xs = 1 := by simp [saC, C1.out, C2.out]
      exact ⟨by simp [saV, hc], B2.out⟩
  · have c1' : autoOk a = false := by simpa using c1
    have C1 := Lib.hid c1'
    have g1 : (!autoOk a) = true := by simp [c1]
    clear c1 c1'
    go_wp2_with fail
    go_ret2
    have hc : saC a n xs = 1 := by simp [saC, C1.out]
    exact ⟨by simp [saV, hc], B1.out⟩
end Go.Proofs.Ythidgjdjijjkoaa
