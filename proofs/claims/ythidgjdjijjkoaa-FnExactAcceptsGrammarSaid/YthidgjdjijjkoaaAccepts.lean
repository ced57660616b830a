import Derived.Test.YthidgjdjijjkoaaLRunG
import Derived.Test.YthidgjdjijjkoaaHas
namespace Go.Proofs.Ythidgjdjijjkoaa
open Go.RowKit

theorem autoOk_start {a : GAuto} (h : autoOk a = true) : 0 ≤ a.start ∧ a.start < a.next.length := by
  have h1 := (autoOk_get h).2.2.1
  unfold autoOk at h
  simp only [Bool.and_eq_true] at h
  have h2 := h.1.1.2
  simp only [inR, Bool.and_eq_true, decide_eq_true_eq] at h2
  omega
def agV (a : GAuto) (xs : List GRule) : Bool := if autoOk a && gramOk xs then hasB a.finals (endS a.next xs a.start.toNat : Nat) else false
def agC (a : GAuto) (xs : List GRule) : Int := if autoOk a && gramOk xs then 0 else 1
theorem after_anyI (v : Value) (a : GAuto) (xs : List GRule) (ls : List Int) (s : Nat) (q i j : Int) (w : World) (hq : q = (s : Int)) (h : RideV w w.heap.size v a xs ls) (ha : autoOk a = true) (hl : lens xs = some ls) (hn : xs.length ≤ 1099511627776) (hs : s < a.next.length) :
    Calls Try.prog 86 #[v, .int .i64 q, .int .i64 i, .int .i64 j] w fun e w' => e = .returned (.int .i64 (((piecesL xs ls i j).foldl (stepM (mapsOf a.next xs)) s : Nat) : Int)) ∧ Below w.heap.size w w' := by
  subst hq; exact after_any v a xs ls s i j w h ha hl hn hs
theorem l04End_anyI (vN vR : Value) (bg og : Nat) (a : GAuto) (xs : List GRule) (ls : List Int) (s : Nat) (q : Int) (w : World) (hq : q = (s : Int)) (hN : Sl (SliceE IntE) w w.heap.size vN a.next) (hR : Sl RuleE w w.heap.size vR xs) (ha : autoOk a = true) (hl : lens xs = some ls) (hn : xs.length ≤ 1099511627776)
    (hp : w.cell? ⟨bg, og, none⟩ = some vR) (hbg : bg < w.heap.size) (hs : s < a.next.length) :
    Calls Try.prog 84 #[vN, .pointer (some ⟨bg, og, none⟩), .int .i64 q] w fun e w' => e = .returned (.int .i64 (endS a.next xs s : Nat)) ∧ Below w.heap.size w w' := by
  subst hq; exact l04End_any vN vR bg og a xs ls s w hN hR ha hl hn hp hbg hs
theorem ContainsB (v : Value) (xs : List Int) (n : Int) (w : World) (h : Sl IntE w w.heap.size v xs) :
    Calls Try.prog 89 #[v, .int .i64 n] w fun e w' => e = .returned (.bool (hasB xs n)) ∧ Below w.heap.size w w' := (Contains_any v xs n w h).mono fun _ _ h => ⟨h.1, drewN_below h.2⟩
theorem HasB_any (v : Value) (xs : List Int) (n : Int) (w : World) (h : Sl IntE w w.heap.size v xs) :
    Calls Try.prog 88 #[v, .int .i64 n] w fun e w' => e = .returned (.bool (hasB xs n)) ∧ Below w.heap.size w w' := (l00Has_any v xs n w h).mono fun _ _ h => ⟨h.1, drewN_below h.2⟩
theorem keep3c {wr W W2 : World} {p : Nat} {a1 a2 a3 : Value}
    (h : Below wr.heap.size wr W ∧ W.cell? ⟨p, 1, none⟩ = some a1 ∧ W.cell? ⟨p, 2, none⟩ = some a2 ∧ W.cell? ⟨p, 3, none⟩ = some a3)
    (h2 : Below W.heap.size W W2) (hp : p < wr.heap.size) :
    Below wr.heap.size wr W2 ∧ W2.cell? ⟨p, 1, none⟩ = some a1 ∧ W2.cell? ⟨p, 2, none⟩ = some a2 ∧ W2.cell? ⟨p, 3, none⟩ = some a3 := by
  obtain ⟨h1, x1, x2, x3⟩ := h
  have hlt := Nat.lt_of_lt_of_le hp h1.size
  have k : ∀ {o : Nat} {v : Value}, W.cell? ⟨p, o, none⟩ = some v → W2.cell? ⟨p, o, none⟩ = some v := fun {o v} hc => (h2.cell (p := ⟨p, o, none⟩) hlt).trans hc
  exact ⟨h1.trans (h2.mono h1.size), k x1, k x2, k x3⟩
theorem keep9 {wr W W2 : World} {p q : Nat} {c0 c1 c2 c3 c4 c5 c6 a1 a2 : Value}
    (h : Below wr.heap.size wr W ∧ W.cell? ⟨p, 0, none⟩ = some c0 ∧ W.cell? ⟨p, 1, none⟩ = some c1 ∧ W.cell? ⟨p, 2, none⟩ = some c2 ∧ W.cell? ⟨p, 3, none⟩ = some c3 ∧ W.cell? ⟨p, 4, none⟩ = some c4 ∧ W.cell? ⟨p, 5, none⟩ = some c5 ∧ W.cell? ⟨p, 6, none⟩ = some c6 ∧ W.cell? ⟨q, 1, none⟩ = some a1 ∧ W.cell? ⟨q, 2, none⟩ = some a2)
    (h2 : Below W.heap.size W W2) (hp : p < wr.heap.size) (hq : q < wr.heap.size) :
    Below wr.heap.size wr W2 ∧ W2.cell? ⟨p, 0, none⟩ = some c0 ∧ W2.cell? ⟨p, 1, none⟩ = some c1 ∧ W2.cell? ⟨p, 2, none⟩ = some c2 ∧ W2.cell? ⟨p, 3, none⟩ = some c3 ∧ W2.cell? ⟨p, 4, none⟩ = some c4 ∧ W2.cell? ⟨p, 5, none⟩ = some c5 ∧ W2.cell? ⟨p, 6, none⟩ = some c6 ∧ W2.cell? ⟨q, 1, none⟩ = some a1 ∧ W2.cell? ⟨q, 2, none⟩ = some a2 := by
  obtain ⟨h1, x0, x1, x2, x3, x4, x5, x6, y1, y2⟩ := h
  have k : ∀ {b o : Nat} {v : Value}, b < wr.heap.size → W.cell? ⟨b, o, none⟩ = some v → W2.cell? ⟨b, o, none⟩ = some v := fun {b o v} hlt hc => (h2.cell (p := ⟨b, o, none⟩) (Nat.lt_of_lt_of_le hlt h1.size)).trans hc
  exact ⟨h1.trans (h2.mono h1.size), k hp x0, k hp x1, k hp x2, k hp x3, k hp x4, k hp x5, k hp x6, k hq y1, k hq y2⟩
theorem keep9D {W : World} {p q : Nat} {c0 c1 c2 c3 c4 c5 c6 a1 a2 : Value} (h : Box7 W p c0 c1 c2 c3 c4 c5 c6) (h1 : W.cell? ⟨q, 1, none⟩ = some a1) (h2 : W.cell? ⟨q, 2, none⟩ = some a2) :
    Below W.heap.size W W.drew ∧ W.drew.cell? ⟨p, 0, none⟩ = some c0 ∧ W.drew.cell? ⟨p, 1, none⟩ = some c1 ∧ W.drew.cell? ⟨p, 2, none⟩ = some c2 ∧ W.drew.cell? ⟨p, 3, none⟩ = some c3 ∧ W.drew.cell? ⟨p, 4, none⟩ = some c4 ∧ W.drew.cell? ⟨p, 5, none⟩ = some c5 ∧ W.drew.cell? ⟨p, 6, none⟩ = some c6 ∧ W.drew.cell? ⟨q, 1, none⟩ = some a1 ∧ W.drew.cell? ⟨q, 2, none⟩ = some a2 :=
  ⟨drewB, h.1, h.2.1, h.2.2.1, h.2.2.2.1, h.2.2.2.2.1, h.2.2.2.2.2.1, h.2.2.2.2.2.2, h1, h2⟩
theorem keep3D {W : World} {p : Nat} {a1 a2 a3 : Value} (h1 : W.cell? ⟨p, 1, none⟩ = some a1) (h2 : W.cell? ⟨p, 2, none⟩ = some a2) (h3 : W.cell? ⟨p, 3, none⟩ = some a3) :
    Below W.heap.size W W.drew ∧ W.drew.cell? ⟨p, 1, none⟩ = some a1 ∧ W.drew.cell? ⟨p, 2, none⟩ = some a2 ∧ W.drew.cell? ⟨p, 3, none⟩ = some a3 := ⟨drewB, h1, h2, h3⟩

set_option maxRecDepth 100000 in
set_option maxHeartbeats 2000000 in
theorem implAcceptsGrammar_any (v vR : Value) (a : GAuto) (xs : List GRule) (w : World) (h : AutoV w w.heap.size v a) (hR : Sl RuleE w w.heap.size vR xs) (hn : xs.length ≤ 1099511627776) :
    Calls Try.prog 38 #[v, .agg #[vR]] w fun e w' => e = .returned (.tuple #[.bool (agV a xs), .int .i64 (agC a xs)]) ∧ Below w.heap.size w w' := by
  have hB := fun o o' => ((Below.refl w.heap.size w).alloc (Nat.le_refl _) o).alloc (by simp) o'
  have HB := Lib.hid hB
  have HA := Lib.hid h
  have HR := Lib.hid hR
  clear hB
  obtain ⟨vF, vN, rfl, hF, hN⟩ := h
  have HF := Lib.hid hF
  obtain ⟨AF, cF, rfl, _⟩ := hF
  obtain ⟨AN, cN, rfl, _⟩ := hN
  obtain ⟨AR, cR, rfl, _⟩ := hR
  go_enter Try.func38, Try.ntmps38
  go_wp2_with fail
  refine (newRide_any _ _ a xs _ ((HA.out.below (HB.out _ _)).le (by first | omega | (simp; done) | (simp; omega))) ((HR.out.below (HB.out _ _)).le (by first | omega | (simp; done) | (simp; omega))) hn).mono ?_
  rintro e w1 ⟨hb1, hpost⟩
  have z1 : w.heap.size + 1 < w1.heap.size := Nat.lt_of_lt_of_le (by simp) hb1.size
  have A1 := Lib.hid (Box4.up (w := (w.alloc (Obj.cells #[.int .i64 a.states, .int .i64 a.start, .slice AF a.finals.length cF, .slice AN a.next.length cN] 35)).alloc (Obj.cells #[.slice AR xs.length cR] 56)) (b := w.heap.size) (c0 := .int .i64 a.states) (c1 := .int .i64 a.start) (c2 := .slice AF a.finals.length cF) (c3 := .slice AN a.next.length cN) ⟨by simp [go_sem], by simp [go_sem], by simp [go_sem], by simp [go_sem]⟩ hb1 (by simp; omega))
  have B1 := Lib.hid ((HB.out _ _).trans (hb1.mono (by simp; omega)))
  have HF1 := Lib.hid ((HF.out.below B1.out).le (B' := w1.heap.size) (by omega))
  clear hb1
  rcases hpost with ⟨ls, vr, hl, hg, ha, rfl, hr⟩ | ⟨hno, rfl⟩
  · have Hl := Lib.hid hl
    have Hg := Lib.hid hg
    have Ha := Lib.hid ha
    obtain ⟨p0, p1⟩ := autoOk_start ha
    have et : a.start = (a.start.toNat : Int) := by omega
    have Et := Lib.hid et
    have ht : a.start.toNat < a.next.length := by omega
    have z0 : w.heap.size < w1.heap.size := by omega
    have Hr := Lib.hid hr
    obtain ⟨uF, uN, uR, uL, uM, rfl, k1, k2, k3, k4, k5⟩ := hr
    obtain ⟨B0, e0, rfl, _⟩ := k1
    obtain ⟨B1', e1, rfl, _⟩ := k2
    obtain ⟨B2', e2, rfl, _⟩ := k3
    obtain ⟨B3, e3, rfl, _⟩ := k4
    obtain ⟨B4, e4, rfl, _⟩ := k5
    clear hl hg ha et p0 p1
    have b12 := (Below.refl w1.heap.size w1).alloc (Nat.le_refl _) (Obj.cells #[.int .i64 a.states, .int .i64 a.start, .slice B0 a.finals.length e0, .slice B1' a.next.length e1, .slice B2' xs.length e2, .slice B3 ls.length e3, .slice B4 (mapsOf a.next xs).length e4] 121)
    have R2 := Lib.hid (Box7.new (w := w1) (c0 := .int .i64 a.states) (c1 := .int .i64 a.start) (c2 := .slice B0 a.finals.length e0) (c3 := .slice B1' a.next.length e1) (c4 := .slice B2' xs.length e2) (c5 := .slice B3 ls.length e3) (c6 := .slice B4 (mapsOf a.next xs).length e4) (t := 121) (Below.refl _ _))
    have z2 : w1.heap.size < (w1.alloc (Obj.cells #[.int .i64 a.states, .int .i64 a.start, .slice B0 a.finals.length e0, .slice B1' a.next.length e1, .slice B2' xs.length e2, .slice B3 ls.length e3, .slice B4 (mapsOf a.next xs).length e4] 121)).heap.size := by simp
    go_wp2_with fail
    revert b12 R2 z2
    generalize w1.alloc (Obj.cells #[.int .i64 a.states, .int .i64 a.start, .slice B0 a.finals.length e0, .slice B1' a.next.length e1, .slice B2' xs.length e2, .slice B3 ls.length e3, .slice B4 (mapsOf a.next xs).length e4] 121) = w2
    intro b12 R2 z2
    have z20 : w.heap.size < w2.heap.size := by omega
    have Hr2 := Lib.hid (Hr.out.up b12)
    have HF2 := Lib.hid (HF1.out.up b12)
    have A2 := Lib.hid (A1.out.up b12 z0)
    have B2 := Lib.hid (B1.out.trans (b12.mono (by omega)))
    clear b12
    have KB := keep9D R2.out A2.out.2.1 A2.out.2.2.1
    obtain ⟨r0, r1, r2, r3, r4, r5, r6⟩ := R2.out
    go_region_held3 (fun w' => Below w2.heap.size w2 w' ∧ w'.cell? ⟨w1.heap.size, 0, none⟩ = some (.int .i64 a.states) ∧ w'.cell? ⟨w1.heap.size, 1, none⟩ = some (.int .i64 a.start) ∧ w'.cell? ⟨w1.heap.size, 2, none⟩ = some (.slice B0 a.finals.length e0) ∧ w'.cell? ⟨w1.heap.size, 3, none⟩ = some (.slice B1' a.next.length e1) ∧ w'.cell? ⟨w1.heap.size, 4, none⟩ = some (.slice B2' xs.length e2) ∧ w'.cell? ⟨w1.heap.size, 5, none⟩ = some (.slice B3 ls.length e3) ∧ w'.cell? ⟨w1.heap.size, 6, none⟩ = some (.slice B4 (mapsOf a.next xs).length e4) ∧ w'.cell? ⟨w.heap.size, 1, none⟩ = some (.int .i64 a.start) ∧ w'.cell? ⟨w.heap.size, 2, none⟩ = some (.slice AF a.finals.length cF))
      (first | (with_reducible exact KB) | (with_reducible exact keep9 KB hb3 z2 z20) | (with_reducible exact keep9 (keep9 KB hb3 z2 z20) hb4 z2 z20) | (with_reducible exact keep9 (keep9 (keep9 KB hb3 z2 z20) hb4 z2 z20) hb5 z2 z20))
      (first
        | (go_at_call 87; refine (rideLength_any _ a xs ls _ (Hr2.out.up drewB)).mono ?_; rintro e w3 ⟨rfl, hb3⟩)
        | (go_at_call 86; refine (after_anyI _ a xs ls a.start.toNat _ _ _ _ Et.out ((Hr2.out.up drewB).up hb3) Ha.out Hl.out hn ht).mono ?_; rintro e w4 ⟨rfl, hb4⟩)
        | (go_at_call 89; refine (ContainsB _ a.finals _ _ (((HF2.out.up drewB).up hb3).up hb4)).mono ?_; rintro e w5 ⟨rfl, hb5⟩))
    have B3 := Lib.hid (B2.out.trans (((drewB (w := w2)).trans (hb3.trans ((hb4.mono hb3.size).trans (hb5.mono (Nat.le_trans hb3.size hb4.size))))).mono (by omega)))
    clear KB hb3 hb4 hb5 r0 r1 r2 r3 r4 r5 r6
    go_wp2_with fail
    go_ret2
    exact ⟨by rw [fold_all Hl.out]; simp [agV, agC, Ha.out, Hg.out], B3.out⟩
  · have Hno := Lib.hid hno
    clear hno
    go_wp2_with fail
    go_ret2
    exact ⟨by simp only [agV, agC, Hno.out]; simp, (by repeat (first | exact B1.out | (refine Below.alloc ?_ (by first | omega | (simp; done) | (simp; omega)) _) | refine below_drewN ?_ _ | refine Below.drew ?_))⟩

set_option maxRecDepth 100000 in
set_option maxHeartbeats 2000000 in
theorem specAcceptsGrammar_any (v vR : Value) (a : GAuto) (xs : List GRule) (w : World) (h : AutoV w w.heap.size v a) (hR : Sl RuleE w w.heap.size vR xs) (hsm : SmallL xs) (hn : xs.length ≤ 1099511627776) :
    Calls Try.prog 37 #[v, .agg #[vR]] w fun e w' => e = .returned (.tuple #[.bool (agV a xs), .int .i64 (agC a xs)]) ∧ Below w.heap.size w w' := by
  have hB := fun o o' => ((Below.refl w.heap.size w).alloc (Nat.le_refl _) o).alloc (by simp) o'
  have HB := Lib.hid hB
  have HR := Lib.hid hR
  clear hB
  obtain ⟨vF, vN, rfl, hF, hN⟩ := h
  have HF := Lib.hid hF
  have HN := Lib.hid hN
  obtain ⟨AF, cF, rfl, _⟩ := hF
  obtain ⟨AN, cN, rfl, _⟩ := hN
  obtain ⟨AR, cR, rfl, _⟩ := hR
  go_enter Try.func37, Try.ntmps37
  go_wp2_with fail
  refine (l04Ok_any _ _ _ _ a _ (by simp [go_sem]) (by simp [go_sem]) (by simp [go_sem]) (by simp [go_sem]) ((HF.out.below (HB.out _ _)).le (by first | omega | (simp; done) | (simp; omega))) ((HN.out.below (HB.out _ _)).le (by first | omega | (simp; done) | (simp; omega)))).mono ?_
  rintro e w1 ⟨rfl, hw1⟩
  have hb1 := drewN_below hw1
  have z1 : w.heap.size + 1 < w1.heap.size := Nat.lt_of_lt_of_le (by simp) hb1.size
  have z0 : w.heap.size < w1.heap.size := by omega
  have A1 := Lib.hid (Box4.up (w := (w.alloc (Obj.cells #[.int .i64 a.states, .int .i64 a.start, .slice AF a.finals.length cF, .slice AN a.next.length cN] 35)).alloc (Obj.cells #[.slice AR xs.length cR] 56)) (b := w.heap.size) (c0 := .int .i64 a.states) (c1 := .int .i64 a.start) (c2 := .slice AF a.finals.length cF) (c3 := .slice AN a.next.length cN) ⟨by simp [go_sem], by simp [go_sem], by simp [go_sem], by simp [go_sem]⟩ hb1 (by simp; omega))
  have y1 : w1.cell? ⟨w.heap.size + 1, 0, none⟩ = some (.slice AR xs.length cR) := (hb1.cell (p := ⟨w.heap.size + 1, 0, none⟩) (by simp)).trans (by simp [go_sem])
  have B1 := Lib.hid ((HB.out _ _).trans (hb1.mono (by simp; omega)))
  clear hb1 hw1
  by_cases c1 : autoOk a = true
  · have C1 := Lib.hid c1
    have g1 : (!autoOk a) = false := by simp [c1]
    obtain ⟨p0, p1⟩ := autoOk_start c1
    have et : a.start = (a.start.toNat : Int) := by omega
    have Et := Lib.hid et
    have ht : a.start.toNat < a.next.length := by omega
    clear c1 et p0 p1
    go_wp2_with fail
    refine (l02Ok_any _ _ _ xs _ y1 z1 ((HR.out.below B1.out).le (by omega)) hsm).mono ?_
    rintro e w2 ⟨rfl, hb2⟩
    have z2 : w.heap.size + 1 < w2.heap.size := by have := hb2.size; omega
    have z20 : w.heap.size < w2.heap.size := by omega
    have A2 := Lib.hid (A1.out.up hb2 z0)
    have y2 := (hb2.cell (p := ⟨w.heap.size + 1, 0, none⟩) z1).trans y1
    have B2 := Lib.hid (B1.out.trans (hb2.mono (by omega)))
    clear hb2 y1
    by_cases c2 : gramOk xs = true
    · have C2 := Lib.hid c2
      have g2 : (!gramOk xs) = false := by simp [c2]
      obtain ⟨_, ls, hl⟩ := gram_lens c2
      have Hl := Lib.hid hl
      clear c2 hl
      obtain ⟨a0, a1, a2, a3⟩ := A2.out
      have KB := keep3D a1 a2 a3
      have hN2 : Sl (SliceE IntE) w2 w2.heap.size (.slice AN a.next.length cN) a.next := (HN.out.below B2.out).le (by omega)
      have hF2 : Sl IntE w2 w2.heap.size (.slice AF a.finals.length cF) a.finals := (HF.out.below B2.out).le (by omega)
      have hR2 : Sl RuleE w2 w2.heap.size (.slice AR xs.length cR) xs := (HR.out.below B2.out).le (by omega)
      have HN2 := Lib.hid hN2
      have HF2 := Lib.hid hF2
      have HR2 := Lib.hid hR2
      have Y2 := Lib.hid (show w2.drew.cell? ⟨w.heap.size + 1, 0, none⟩ = _ from y2)
      have Z2 := Lib.hid (show w.heap.size + 1 < w2.drew.heap.size from z2)
      clear hN2 hF2 hR2
      go_wp2_with fail
      go_region_held3 (fun w' => Below w2.heap.size w2 w' ∧ w'.cell? ⟨w.heap.size, 1, none⟩ = some (.int .i64 a.start) ∧ w'.cell? ⟨w.heap.size, 2, none⟩ = some (.slice AF a.finals.length cF) ∧ w'.cell? ⟨w.heap.size, 3, none⟩ = some (.slice AN a.next.length cN))
        (first | (with_reducible exact KB) | (with_reducible exact keep3c KB hb3 z20) | (with_reducible exact keep3c (keep3c KB hb3 z20) hb4 z20))
        (first
          | (go_at_call 84; refine (l04End_anyI _ _ _ _ a xs ls a.start.toNat _ _ Et.out (HN2.out.up drewB) (HR2.out.up drewB) C1.out Hl.out hn Y2.out Z2.out ht).mono ?_; rintro e w3 ⟨rfl, hb3⟩)
          | (go_at_call 88; refine (HasB_any _ a.finals _ _ ((HF2.out.up drewB).up hb3)).mono ?_; rintro e w4 ⟨rfl, hb4⟩))
      have B4 := Lib.hid (B2.out.trans (((drewB (w := w2)).trans (hb3.trans (hb4.mono hb3.size))).mono (by omega)))
      clear KB hb3 hb4 a0 a1 a2 a3
      go_wp2_with fail
      go_ret2
      exact ⟨by simp [agV, agC, C1.out, C2.out], B4.out⟩
    · have c2' : gramOk xs = false := by simpa using c2
      have C2 := Lib.hid c2'
      have g2 : (!gramOk xs) = true := by simp [c2]
      clear c2 c2'
      go_wp2_with fail
      go_ret2
      exact ⟨by simp [agV, agC, C1.out, C2.out], B2.out⟩
  · have c1' : autoOk a = false := by simpa using c1
    have C1 := Lib.hid c1'
    have g1 : (!autoOk a) = true := by simp [c1]
    clear c1 c1'
    go_wp2_with fail
    go_ret2
    exact ⟨by simp [agV, agC, C1.out], B1.out⟩
end Go.Proofs.Ythidgjdjijjkoaa
