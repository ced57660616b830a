import Derived.Test.YtoemoifeiigkoaaMaps3
namespace Go.Proofs.Ytoemoifeiigkoaa
open Go.RowKit

/-- The value v reads as a ride: an automaton, a grammar, its lengths, its maps. -/
def RideV (w : World) (B : Nat) (v : Value) (a : GAuto) (xs : List GRule) (ls : List Int) : Prop :=
  ∃ vF vN vR vL vM, v = .agg #[.int .i64 a.states, .int .i64 a.start, vF, vN, vR, vL, vM] ∧ Sl IntE w B vF a.finals ∧ Sl (SliceE IntE) w B vN a.next ∧ Sl RuleE w B vR xs ∧ Sl IntE w B vL ls ∧ Sl (SliceE IntE) w B vM (mapsOf a.next xs)
theorem RideV.below {w w' : World} {B : Nat} {v : Value} {a : GAuto} {xs : List GRule} {ls : List Int} (h : RideV w B v a xs ls) (hb : Below B w w') : RideV w' B v a xs ls := by
  obtain ⟨vF, vN, vR, vL, vM, rfl, h1, h2, h3, h4, h5⟩ := h
  exact ⟨vF, vN, vR, vL, vM, rfl, h1.below hb, h2.below hb, h3.below hb, h4.below hb, h5.below hb⟩
theorem RideV.le {w : World} {B B' : Nat} {v : Value} {a : GAuto} {xs : List GRule} {ls : List Int} (h : RideV w B v a xs ls) (hb : B ≤ B') : RideV w B' v a xs ls := by
  obtain ⟨vF, vN, vR, vL, vM, rfl, h1, h2, h3, h4, h5⟩ := h
  exact ⟨vF, vN, vR, vL, vM, rfl, h1.le hb, h2.le hb, h3.le hb, h4.le hb, h5.le hb⟩
theorem RideV.up {w0 w : World} {v : Value} {a : GAuto} {xs : List GRule} {ls : List Int} (h : RideV w0 w0.heap.size v a xs ls) (hb : Below w0.heap.size w0 w) : RideV w w.heap.size v a xs ls := (h.below hb).le hb.size
def RidePost (a : GAuto) (xs : List GRule) (w : World) (e : Ending) (w' : World) : Prop :=
  Below w.heap.size w w' ∧ ((∃ ls v, lens xs = some ls ∧ gramOk xs = true ∧ autoOk a = true ∧ e = .returned (.tuple #[v, .bool true]) ∧ RideV w' w'.heap.size v a xs ls) ∨
    ((autoOk a && gramOk xs) = false ∧ e = .returned (.tuple #[.agg #[.int .i64 0, .int .i64 0, .slice none 0 0, .slice none 0 0, .slice none 0 0, .slice none 0 0, .slice none 0 0], .bool false])))

theorem keepR {N : Nat} {wr W W2 : World} {p q : Nat} {a0 a1 a2 a3 b0 : Value}
    (h : Below N wr W ∧ W.cell? ⟨p, 0, none⟩ = some a0 ∧ W.cell? ⟨p, 1, none⟩ = some a1 ∧ W.cell? ⟨p, 2, none⟩ = some a2 ∧ W.cell? ⟨p, 3, none⟩ = some a3 ∧ W.cell? ⟨q, 0, none⟩ = some b0)
    (h2 : Below W.heap.size W W2) (hN : N ≤ wr.heap.size) (hp : p < N) (hq : q < N) :
    Below N wr W2 ∧ W2.cell? ⟨p, 0, none⟩ = some a0 ∧ W2.cell? ⟨p, 1, none⟩ = some a1 ∧ W2.cell? ⟨p, 2, none⟩ = some a2 ∧ W2.cell? ⟨p, 3, none⟩ = some a3 ∧ W2.cell? ⟨q, 0, none⟩ = some b0 := by
  obtain ⟨h1, x0, x1, x2, x3, y0⟩ := h
  have hs := h1.size
  have A := Box4.up ⟨x0, x1, x2, x3⟩ h2 (by omega)
  exact ⟨h1.trans (h2.mono (by omega)), A.1, A.2.1, A.2.2.1, A.2.2.2, (h2.cell (p := ⟨q, 0, none⟩) (by show q < _; omega)).trans y0⟩
theorem keepRD {N : Nat} {W : World} {p q : Nat} {a0 a1 a2 a3 b0 : Value} (x0 : W.cell? ⟨p, 0, none⟩ = some a0) (x1 : W.cell? ⟨p, 1, none⟩ = some a1) (x2 : W.cell? ⟨p, 2, none⟩ = some a2) (x3 : W.cell? ⟨p, 3, none⟩ = some a3) (y0 : W.cell? ⟨q, 0, none⟩ = some b0) :
    Below N W W.drew ∧ W.drew.cell? ⟨p, 0, none⟩ = some a0 ∧ W.drew.cell? ⟨p, 1, none⟩ = some a1 ∧ W.drew.cell? ⟨p, 2, none⟩ = some a2 ∧ W.drew.cell? ⟨p, 3, none⟩ = some a3 ∧ W.drew.cell? ⟨q, 0, none⟩ = some b0 :=
  ⟨(Below.refl _ _).drew, x0, x1, x2, x3, y0⟩
theorem keepRS {N : Nat} {wr W : World} {p q b o : Nat} {a0 a1 a2 a3 b0 u : Value}
    (h : Below N wr W ∧ W.cell? ⟨p, 0, none⟩ = some a0 ∧ W.cell? ⟨p, 1, none⟩ = some a1 ∧ W.cell? ⟨p, 2, none⟩ = some a2 ∧ W.cell? ⟨p, 3, none⟩ = some a3 ∧ W.cell? ⟨q, 0, none⟩ = some b0)
    (hb : N ≤ b) (hp : p < N) (hq : q < N) :
    Below N wr (W.setCell ⟨b, o, none⟩ u) ∧ (W.setCell ⟨b, o, none⟩ u).cell? ⟨p, 0, none⟩ = some a0 ∧ (W.setCell ⟨b, o, none⟩ u).cell? ⟨p, 1, none⟩ = some a1 ∧ (W.setCell ⟨b, o, none⟩ u).cell? ⟨p, 2, none⟩ = some a2 ∧ (W.setCell ⟨b, o, none⟩ u).cell? ⟨p, 3, none⟩ = some a3 ∧ (W.setCell ⟨b, o, none⟩ u).cell? ⟨q, 0, none⟩ = some b0 := by
  obtain ⟨h1, x0, x1, x2, x3, y0⟩ := h
  have h2 : Below N W (W.setCell ⟨b, o, none⟩ u) := (Below.refl _ _).setCell hb _
  have A := Box4.up ⟨x0, x1, x2, x3⟩ h2 hp
  exact ⟨h1.trans h2, A.1, A.2.1, A.2.2.1, A.2.2.2, (h2.cell (p := ⟨q, 0, none⟩) hq).trans y0⟩

set_option maxRecDepth 100000 in
set_option maxHeartbeats 2000000 in
theorem newRide_any (v vR : Value) (a : GAuto) (xs : List GRule) (w : World) (h : AutoV w w.heap.size v a) (hR : Sl RuleE w w.heap.size vR xs) (hn : xs.length ≤ 1099511627776) :
    Calls Try.prog 105 #[v, .agg #[vR]] w (RidePost a xs w) := by
  have hB := fun o o' o'' => (((Below.refl w.heap.size w).alloc (Nat.le_refl _) o).alloc (by simp) o').alloc (by simp; omega) o''
  have HB := Lib.hid hB
  have HA := Lib.hid h
  have HR := Lib.hid hR
  clear hB
  obtain ⟨vF, vN, rfl, hF, hN⟩ := h
  have HF := Lib.hid hF
  have HN := Lib.hid hN
  obtain ⟨AF, cF, rfl, _⟩ := hF
  obtain ⟨AN, cN, rfl, _⟩ := hN
  obtain ⟨AR, cR, rfl, _⟩ := hR
  go_enter Try.func105, Try.ntmps105
  go_wp2_with fail
  refine (lengths_any _ xs _ ((HR.out.below (HB.out _ _ _)).le (by first | omega | (simp; done) | (simp; omega))) hn).mono ?_
  rintro e w1 ⟨hb1, hpost⟩
  have z1 : w.heap.size + 2 < w1.heap.size := Nat.lt_of_lt_of_le (by simp) hb1.size
  have z2 : w.heap.size + 1 + 1 < w1.heap.size := z1
  have z3 : w.heap.size + 1 < w1.heap.size := by omega
  have z4 : w.heap.size < w1.heap.size := by omega
  have x0 : w1.cell? ⟨w.heap.size, 0, none⟩ = some (.int .i64 a.states) := (hb1.cell (p := ⟨w.heap.size, 0, none⟩) (by simp; omega)).trans (by simp [go_sem])
  have x1 : w1.cell? ⟨w.heap.size, 1, none⟩ = some (.int .i64 a.start) := (hb1.cell (p := ⟨w.heap.size, 1, none⟩) (by simp; omega)).trans (by simp [go_sem])
  have x2 : w1.cell? ⟨w.heap.size, 2, none⟩ = some (.slice AF a.finals.length cF) := (hb1.cell (p := ⟨w.heap.size, 2, none⟩) (by simp; omega)).trans (by simp [go_sem])
  have x3 : w1.cell? ⟨w.heap.size, 3, none⟩ = some (.slice AN a.next.length cN) := (hb1.cell (p := ⟨w.heap.size, 3, none⟩) (by simp; omega)).trans (by simp [go_sem])
  have y0 : w1.cell? ⟨w.heap.size + 1, 0, none⟩ = some (.slice AR xs.length cR) := (hb1.cell (p := ⟨w.heap.size + 1, 0, none⟩) (by simp)).trans (by simp [go_sem])
  obtain ⟨hc1, hf1⟩ := bcell hb1
  have rz : ∀ j, j < 7 → ∃ u, w1.cell? ⟨w.heap.size + 1 + 1, j, none⟩ = some u := fun j hj => by
    rw [hc1 _ _ (by simp)]
    match j, hj with
    | 0, _ => exact ⟨.int .i64 0, by simp [go_sem]⟩
    | 1, _ => exact ⟨.int .i64 0, by simp [go_sem]⟩
    | 2, _ => exact ⟨.slice none 0 0, by simp [go_sem]⟩
    | 3, _ => exact ⟨.slice none 0 0, by simp [go_sem]⟩
    | 4, _ => exact ⟨.slice none 0 0, by simp [go_sem]⟩
    | 5, _ => exact ⟨.slice none 0 0, by simp [go_sem]⟩
    | 6, _ => exact ⟨.slice none 0 0, by simp [go_sem]⟩
  have fz : ∀ j, w1.frozen? ⟨w.heap.size + 1 + 1, j, none⟩ = false := fun j => by rw [hf1 _ _ (by simp)]; simp [go_sem]
  have HA1 := Lib.hid ((HA.out.below ((HB.out _ _ _).trans (hb1.mono (by simp; omega)))).le (B' := w1.heap.size) (by omega))
  have HR1 := Lib.hid ((HR.out.below ((HB.out _ _ _).trans (hb1.mono (by simp; omega)))).le (B' := w1.heap.size) (by omega))
  have B1 := Lib.hid ((HB.out _ _ _).trans (hb1.mono (by simp; omega)))
  have RZ := Lib.hid rz
  have FZ := Lib.hid fz
  clear hb1 hc1 hf1 rz fz
  rcases hpost with ⟨ls, vL, hl, rfl, hown⟩ | ⟨hl, rfl⟩
  · by_cases h4 : xs.length ≤ 400
    · have g4 : decide (xs.length ≤ 400) = true := by simpa using h4
      have H4 := Lib.hid h4
      have Hl := Lib.hid hl
      have Hgr : Hid (gramOk xs = true) := by simp [Hid, gramOk, hl, h4]
      have Hown := Lib.hid hown
      obtain ⟨AL, cL, rfl, _⟩ := own_nil hown
      clear hl hown
      go_wp2_with fail
      refine (ValidAuto_any _ a _ HA1.out).mono ?_
      rintro e w2 ⟨rfl, hb2⟩
      have u0 := (hb2.cell (p := ⟨w.heap.size, 0, none⟩) z4).trans x0
      have u1 := (hb2.cell (p := ⟨w.heap.size, 1, none⟩) z4).trans x1
      have u2 := (hb2.cell (p := ⟨w.heap.size, 2, none⟩) z4).trans x2
      have u3 := (hb2.cell (p := ⟨w.heap.size, 3, none⟩) z4).trans x3
      have t0 := (hb2.cell (p := ⟨w.heap.size + 1, 0, none⟩) z3).trans y0
      have q4 : w.heap.size < w2.heap.size := by have := hb2.size; omega
      have q3 : w.heap.size + 1 < w2.heap.size := by have := hb2.size; omega
      have q2 : w.heap.size + 1 + 1 < w2.heap.size := by have := hb2.size; omega
      have RZ2 := Lib.hid (fun j (hj : j < 7) => (RZ.out j hj).imp fun u hu => (hb2.cell (p := ⟨w.heap.size + 1 + 1, j, none⟩) z2).trans hu)
      have FZ2 := Lib.hid (fun j => (hb2.frozen (p := ⟨w.heap.size + 1 + 1, j, none⟩) z2).trans (FZ.out j))
      have HA2 := Lib.hid (HA1.out.up hb2)
      have HR2 := Lib.hid (HR1.out.up hb2)
      have HN2 : Hid (Sl (SliceE IntE) w2 w2.heap.size (.slice AN a.next.length cN) a.next) := by
        obtain ⟨vF', vN', hv', hF', hN'⟩ := HA2.out
        injection hv' with hv'
        simp at hv'
        obtain ⟨_, rfl⟩ := hv'
        exact hN'
      have B2 := Lib.hid (B1.out.trans (hb2.mono (by omega)))
      have Hown2 := Lib.hid (ownsRow_below Hown.out hb2)
      clear hb2 x0 x1 x2 x3 y0
      by_cases c1 : autoOk a = true
      · have C1 := Lib.hid c1
        have g1 : (!autoOk a) = false := by simp [c1]
        clear c1
        go_wp2_with fail
        have e1 : w.heap.size + 1 + 1 ≤ w2.heap.size := by omega
        have e2 : w.heap.size < w.heap.size + 1 + 1 := by omega
        have e3 : w.heap.size + 1 < w.heap.size + 1 + 1 := by omega
        have e4 : w.heap.size + 1 + 1 ≤ w.heap.size + 1 + 1 := by omega
        go_region_held3 (fun w' => Below (w.heap.size + 1 + 1) w2 w' ∧ w'.cell? ⟨w.heap.size, 0, none⟩ = some (.int .i64 a.states) ∧ w'.cell? ⟨w.heap.size, 1, none⟩ = some (.int .i64 a.start) ∧ w'.cell? ⟨w.heap.size, 2, none⟩ = some (.slice AF a.finals.length cF) ∧ w'.cell? ⟨w.heap.size, 3, none⟩ = some (.slice AN a.next.length cN) ∧ w'.cell? ⟨w.heap.size + 1, 0, none⟩ = some (.slice AR xs.length cR))
          (first | (with_reducible exact keepRD u0 u1 u2 u3 t0) | (with_reducible exact keepR (keepRD u0 u1 u2 u3 t0) hb3 e1 e2 e3) | (with_reducible exact keepRS (keepRS (keepRS (keepRS (keepRS (keepRS (keepRS (keepR (keepRD u0 u1 u2 u3 t0) hb3 e1 e2 e3) e4 e2 e3) e4 e2 e3) e4 e2 e3) e4 e2 e3) e4 e2 e3) e4 e2 e3) e4 e2 e3))
          (first
            | (go_at_call 190; refine (stateMaps_any _ _ a xs ls _ (HN2.out.up (Below.drew (Below.refl _ _))) (HR2.out.up (Below.drew (Below.refl _ _))) C1.out Hl.out hn).mono ?_; rintro e w3 ⟨vM, rfl, hM, hb3⟩; have HM := Lib.hid hM; obtain ⟨AM, cM, rfl, _⟩ := hM; have b3 : Below w2.heap.size w2 w3 := (Below.drew (Below.refl _ _)).trans hb3; have hfz := (fun j => (b3.frozen (p := ⟨w.heap.size + 1 + 1, j, none⟩) q2).trans (FZ2.out j)); have hz3 : w.heap.size + 1 + 1 < w3.heap.size := Nat.lt_of_lt_of_le q2 b3.size; obtain ⟨l0, k0⟩ := RZ2.out 0 (by omega); obtain ⟨l1, k1⟩ := RZ2.out 1 (by omega); obtain ⟨l2, k2⟩ := RZ2.out 2 (by omega); obtain ⟨l3, k3⟩ := RZ2.out 3 (by omega); obtain ⟨l4, k4⟩ := RZ2.out 4 (by omega); obtain ⟨l5, k5⟩ := RZ2.out 5 (by omega); obtain ⟨l6, k6⟩ := RZ2.out 6 (by omega); have m0 := (b3.cell (p := ⟨w.heap.size + 1 + 1, 0, none⟩) q2).trans k0; have m1 := (b3.cell (p := ⟨w.heap.size + 1 + 1, 1, none⟩) q2).trans k1; have m2 := (b3.cell (p := ⟨w.heap.size + 1 + 1, 2, none⟩) q2).trans k2; have m3 := (b3.cell (p := ⟨w.heap.size + 1 + 1, 3, none⟩) q2).trans k3; have m4 := (b3.cell (p := ⟨w.heap.size + 1 + 1, 4, none⟩) q2).trans k4; have m5 := (b3.cell (p := ⟨w.heap.size + 1 + 1, 5, none⟩) q2).trans k5; have m6 := (b3.cell (p := ⟨w.heap.size + 1 + 1, 6, none⟩) q2).trans k6))
        have B3 := Lib.hid b3
        have hz23 : w.heap.size + 3 ≤ w2.heap.size := by omega
        clear u0 u1 u2 u3 t0 b3 hb3 k0 k1 k2 k3 k4 k5 k6
        go_wp2_with fail
        refine bodyPost_ret (v := .tuple #[.agg #[.int .i64 a.states, .int .i64 a.start, .slice AF a.finals.length cF, .slice AN a.next.length cN, .slice AR xs.length cR, .slice AL ls.length cL, .slice AM (mapsOf a.next xs).length cM], .bool true]) (by simp [results, Try.results105, go_sem, m0, m1, m2, m3, m4, m5, m6]) rfl ?_
        have hW : Below w.heap.size w (((((((w3.setCell ⟨w.heap.size + 1 + 1, 0, none⟩ (.int .i64 a.states)).setCell ⟨w.heap.size + 1 + 1, 1, none⟩ (.int .i64 a.start)).setCell ⟨w.heap.size + 1 + 1, 2, none⟩ (.slice AF a.finals.length cF)).setCell ⟨w.heap.size + 1 + 1, 3, none⟩ (.slice AN a.next.length cN)).setCell ⟨w.heap.size + 1 + 1, 4, none⟩ (.slice AR xs.length cR)).setCell ⟨w.heap.size + 1 + 1, 5, none⟩ (.slice AL ls.length cL)).setCell ⟨w.heap.size + 1 + 1, 6, none⟩ (.slice AM (mapsOf a.next xs).length cM)) := by
          have h1 := B2.out.trans (B3.out.mono (by omega))
          have hle : w.heap.size ≤ w.heap.size + 1 + 1 := by omega
          exact ((((((h1.setCell hle _).setCell hle _).setCell hle _).setCell hle _).setCell hle _).setCell hle _).setCell hle _
        refine ⟨hW, .inl ⟨ls, _, Hl.out, Hgr.out, C1.out, rfl, _, _, _, _, _, rfl, (HF.out.below hW).le hW.size, (HN.out.below hW).le hW.size, (HR.out.below hW).le hW.size, ?_, ?_⟩⟩
        · have h1 : SlS IntE w2 (fun b => w.heap.size + 3 ≤ b ∧ b < w2.heap.size) (.slice AL ls.length cL) ls := OwnInts.slS Hown2.out fun g hg => by have := World.ownsRow.lt Hown2.out g hg; simp at this; omega
          have h2 := (h1.keep ((Keep.of_below B3.out).mono fun b h => h.2)).more (S' := fun b => w.heap.size + 3 ≤ b ∧ b < w3.heap.size) fun b h => ⟨h.1, Nat.lt_of_lt_of_le h.2 B3.out.size⟩
          exact (((((((h2.keep (Keep.of_set2 (by omega) _)).keep (Keep.of_set2 (by omega) _)).keep (Keep.of_set2 (by omega) _)).keep (Keep.of_set2 (by omega) _)).keep (Keep.of_set2 (by omega) _)).keep (Keep.of_set2 (by omega) _)).keep (Keep.of_set2 (by omega) _)).more fun b h => by simp [World.setCell]; exact h.2
        · have h2 := HM.out.more (S' := fun b => w.heap.size + 3 ≤ b ∧ b < w3.heap.size) fun b h => ⟨Nat.le_trans hz23 h.1, h.2⟩
          exact (((((((h2.keep (Keep.of_set2 (by omega) _)).keep (Keep.of_set2 (by omega) _)).keep (Keep.of_set2 (by omega) _)).keep (Keep.of_set2 (by omega) _)).keep (Keep.of_set2 (by omega) _)).keep (Keep.of_set2 (by omega) _)).keep (Keep.of_set2 (by omega) _)).more fun b h => by simp [World.setCell]; exact h.2
      · have c1' : autoOk a = false := by simpa using c1
        have C1 := Lib.hid c1'
        have g1 : (!autoOk a) = true := by simp [c1]
        have hno : (autoOk a && gramOk xs) = false := by simp [c1']
        have Hno := Lib.hid hno
        clear c1 c1' hno
        obtain ⟨l0, m0⟩ := RZ2.out 0 (by omega)
        obtain ⟨l1, m1⟩ := RZ2.out 1 (by omega)
        obtain ⟨l2, m2⟩ := RZ2.out 2 (by omega)
        obtain ⟨l3, m3⟩ := RZ2.out 3 (by omega)
        obtain ⟨l4, m4⟩ := RZ2.out 4 (by omega)
        obtain ⟨l5, m5⟩ := RZ2.out 5 (by omega)
        obtain ⟨l6, m6⟩ := RZ2.out 6 (by omega)
        have hfz := FZ2.out
        go_wp2_with fail
        refine bodyPost_ret (v := .tuple #[.agg #[.int .i64 0, .int .i64 0, .slice none 0 0, .slice none 0 0, .slice none 0 0, .slice none 0 0, .slice none 0 0], .bool false]) (by simp [results, Try.results105, go_sem, m0, m1, m2, m3, m4, m5, m6]) rfl ⟨?_, .inr ⟨Hno.out, rfl⟩⟩
        have hle : w.heap.size ≤ w.heap.size + 1 + 1 := by omega
        exact ((((((B2.out.setCell hle _).setCell hle _).setCell hle _).setCell hle _).setCell hle _).setCell hle _).setCell hle _
    · have g4 : decide (xs.length ≤ 400) = false := by simpa using h4
      have hno : (autoOk a && gramOk xs) = false := by simp [gramOk, h4]
      have Hno := Lib.hid hno
      obtain ⟨AL, cL, rfl, _⟩ := own_nil hown
      clear hl hown hno
      obtain ⟨l0, m0⟩ := RZ.out 0 (by omega)
      obtain ⟨l1, m1⟩ := RZ.out 1 (by omega)
      obtain ⟨l2, m2⟩ := RZ.out 2 (by omega)
      obtain ⟨l3, m3⟩ := RZ.out 3 (by omega)
      obtain ⟨l4, m4⟩ := RZ.out 4 (by omega)
      obtain ⟨l5, m5⟩ := RZ.out 5 (by omega)
      obtain ⟨l6, m6⟩ := RZ.out 6 (by omega)
      have hfz := FZ.out
      go_wp2_with fail
      refine bodyPost_ret (v := .tuple #[.agg #[.int .i64 0, .int .i64 0, .slice none 0 0, .slice none 0 0, .slice none 0 0, .slice none 0 0, .slice none 0 0], .bool false]) (by simp [results, Try.results105, go_sem, m0, m1, m2, m3, m4, m5, m6]) rfl ⟨?_, .inr ⟨Hno.out, rfl⟩⟩
      have hle : w.heap.size ≤ w.heap.size + 1 + 1 := by omega
      exact ((((((B1.out.setCell hle _).setCell hle _).setCell hle _).setCell hle _).setCell hle _).setCell hle _).setCell hle _
  · have hno : (autoOk a && gramOk xs) = false := by simp [gramOk, hl]
    have Hno := Lib.hid hno
    clear hl hno
    obtain ⟨l0, m0⟩ := RZ.out 0 (by omega)
    obtain ⟨l1, m1⟩ := RZ.out 1 (by omega)
    obtain ⟨l2, m2⟩ := RZ.out 2 (by omega)
    obtain ⟨l3, m3⟩ := RZ.out 3 (by omega)
    obtain ⟨l4, m4⟩ := RZ.out 4 (by omega)
    obtain ⟨l5, m5⟩ := RZ.out 5 (by omega)
    obtain ⟨l6, m6⟩ := RZ.out 6 (by omega)
    have hfz := FZ.out
    go_wp2_with fail
    refine bodyPost_ret (v := .tuple #[.agg #[.int .i64 0, .int .i64 0, .slice none 0 0, .slice none 0 0, .slice none 0 0, .slice none 0 0, .slice none 0 0], .bool false]) (by simp [results, Try.results105, go_sem, m0, m1, m2, m3, m4, m5, m6]) rfl ⟨?_, .inr ⟨Hno.out, rfl⟩⟩
    have hle : w.heap.size ≤ w.heap.size + 1 + 1 := by omega
    exact ((((((B1.out.setCell hle _).setCell hle _).setCell hle _).setCell hle _).setCell hle _).setCell hle _).setCell hle _
end Go.Proofs.Ytoemoifeiigkoaa
