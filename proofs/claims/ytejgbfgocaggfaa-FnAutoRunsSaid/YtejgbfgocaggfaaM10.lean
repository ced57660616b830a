import Derived.Test.YtejgbfgocaggfaaM9
import Derived.Test.YtejgbfgocaggfaaM8
import Derived.Test.YtejgbfgocaggfaaM4
import Derived.Test.YtejgbfgocaggfaaM2
import Derived.Shelf.Strings.BuilderK
import Derived.Test.YtejgbfgocaggfaaM5
import Derived.Test.YtejgbfgocaggfaaM3
import Derived.Laws.EntriesVeiled
import Derived.Test.YtejgbfgocaggfaaM1
import Derived.Test.YtejgbfgocaggfaaM6
import Derived.Test.YtejgbfgocaggfaaM7
namespace Go.Proofs.Ytejgbfgocaggfaa
open Go.RowKit
set_option maxRecDepth 100000 in
set_option maxHeartbeats 2000000 in
theorem implStateMaps_any (v vR : Value) (a : GAuto) (xs : List GRule) (ls : List Int) (w : World) (h : AutoV w w.heap.size v a) (hR : Sl RuleE w w.heap.size vR xs) (ha : autoOk a = true) (hg : gramOk xs = true) (hl : lens xs = some ls) :
    Calls Try.prog 31 #[v, .agg #[vR]] w fun e w' => ∃ u, e = .returned (.tuple #[u, .int .i64 0]) ∧ Sl (SliceE IntE) w' w'.heap.size u (mapsOf a.next xs) ∧ Below w.heap.size w w' := by
  have hn : xs.length ≤ 400 := (gram_lens hg).1
  have hB := fun o o' => (((Below.refl w.heap.size w).alloc (Nat.le_refl _) o).alloc (by simp) o')
  have HB := Lib.hid hB
  have HA := Lib.hid h
  have HR := Lib.hid hR
  have Ha := Lib.hid ha
  have Hg := Lib.hid hg
  have Hl := Lib.hid hl
  clear hB hg hl ha
  obtain ⟨vF, vN, rfl, hF, hN⟩ := h
  have HF := Lib.hid hF
  obtain ⟨AF, cF, rfl, _⟩ := hF
  obtain ⟨AN, cN, rfl, _⟩ := hN
  obtain ⟨AR, cR, rfl, _⟩ := hR
  go_enter Try.func31, Try.ntmps31
  go_wp2_with fail
  refine (newRide_any _ _ a xs _ ((HA.out.below (HB.out _ _)).le (by first | omega | (simp; done) | (simp; omega))) ((HR.out.below (HB.out _ _)).le (by first | omega | (simp; done) | (simp; omega))) (by omega)).mono ?_
  rintro e w1 ⟨hb1, hpost⟩
  have z1 : w.heap.size + 1 < w1.heap.size := Nat.lt_of_lt_of_le (by simp) hb1.size
  have B1 := Lib.hid ((HB.out _ _).trans (hb1.mono (by simp; omega)))
  clear hb1
  rcases hpost with ⟨ls', vr, hl', hg', ha', rfl, hr⟩ | ⟨hno, _⟩
  · have e1 : ls' = ls := by have := hl'.symm.trans Hl.out; injection this
    subst e1
    clear hl' hg' ha'
    have Hr := Lib.hid hr
    obtain ⟨uF, uN, uR, uL, uM, rfl, k1, k2, k3, k4, k5⟩ := hr
    obtain ⟨B0, e0, rfl, _⟩ := k1
    obtain ⟨B1', e1, rfl, _⟩ := k2
    obtain ⟨B2', e2, rfl, _⟩ := k3
    obtain ⟨B3, e3, rfl, _⟩ := k4
    obtain ⟨B4, e4, rfl, _⟩ := k5
    have b12 := (Below.refl w1.heap.size w1).alloc (Nat.le_refl _) (Obj.cells #[.int .i64 a.states, .int .i64 a.start, .slice B0 a.finals.length e0, .slice B1' a.next.length e1, .slice B2' xs.length e2, .slice B3 ls'.length e3, .slice B4 (mapsOf a.next xs).length e4] 94)
    have R2 := Lib.hid (Box7.new (w := w1) (c0 := .int .i64 a.states) (c1 := .int .i64 a.start) (c2 := .slice B0 a.finals.length e0) (c3 := .slice B1' a.next.length e1) (c4 := .slice B2' xs.length e2) (c5 := .slice B3 ls'.length e3) (c6 := .slice B4 (mapsOf a.next xs).length e4) (t := 94) (Below.refl _ _))
    have z2 : w1.heap.size < (w1.alloc (Obj.cells #[.int .i64 a.states, .int .i64 a.start, .slice B0 a.finals.length e0, .slice B1' a.next.length e1, .slice B2' xs.length e2, .slice B3 ls'.length e3, .slice B4 (mapsOf a.next xs).length e4] 94)).heap.size := by simp
    have HM := Lib.hid (show Sl (SliceE IntE) w1 w1.heap.size (.slice B4 (mapsOf a.next xs).length e4) (mapsOf a.next xs) from by
      obtain ⟨_, _, _, _, _, e, _, _, _, _, q⟩ := Hr.out
      injection e with e; simp at e; obtain ⟨_, _, _, _, rfl⟩ := e; exact q)
    go_wp2_with fail
    go_ret2
    exact ⟨_, rfl, HM.out.up b12, B1.out.trans (b12.mono (by omega))⟩
  · rw [Ha.out, Hg.out] at hno; cases hno
theorem keep72 {N : Nat} {wr W W2 : World} {p q o : Nat} {c0 c1 c2 c3 c4 c5 c6 c7 : Value}
    (h : Below N wr W ∧ W.cell? ⟨p, 0, none⟩ = some c0 ∧ W.cell? ⟨p, 1, none⟩ = some c1 ∧ W.cell? ⟨p, 2, none⟩ = some c2 ∧ W.cell? ⟨p, 3, none⟩ = some c3 ∧ W.cell? ⟨p, 4, none⟩ = some c4 ∧ W.cell? ⟨p, 5, none⟩ = some c5 ∧ W.cell? ⟨p, 6, none⟩ = some c6 ∧ W.cell? ⟨q, o, none⟩ = some c7)
    (h2 : Below W.heap.size W W2) (hN : N ≤ wr.heap.size) (hp : p < N) (hq : q < N) :
    Below N wr W2 ∧ W2.cell? ⟨p, 0, none⟩ = some c0 ∧ W2.cell? ⟨p, 1, none⟩ = some c1 ∧ W2.cell? ⟨p, 2, none⟩ = some c2 ∧ W2.cell? ⟨p, 3, none⟩ = some c3 ∧ W2.cell? ⟨p, 4, none⟩ = some c4 ∧ W2.cell? ⟨p, 5, none⟩ = some c5 ∧ W2.cell? ⟨p, 6, none⟩ = some c6 ∧ W2.cell? ⟨q, o, none⟩ = some c7 := by
  obtain ⟨h1, x0, x1, x2, x3, x4, x5, x6, x7⟩ := h
  have hs := h1.size
  have k := Box7.up ⟨x0, x1, x2, x3, x4, x5, x6⟩ h2 (by omega)
  exact ⟨h1.trans (h2.mono (by omega)), k.1, k.2.1, k.2.2.1, k.2.2.2.1, k.2.2.2.2.1, k.2.2.2.2.2.1, k.2.2.2.2.2.2, (h2.cell (p := ⟨q, o, none⟩) (by show q < _; omega)).trans x7⟩
theorem fin_lt {a : GAuto} (ha : autoOk a = true) : ∀ k, k < a.finals.length → 0 ≤ a.finals.getD k 0 ∧ a.finals.getD k 0 < a.next.length := by
  have h3 := (autoOk_get ha).2.2.1
  unfold autoOk at ha
  simp only [Bool.and_eq_true] at ha
  have h1 := ha.1.2
  intro k hk
  unfold risesOk allB at h1
  rw [List.all_eq_true] at h1
  have h2 := h1 k (by simpa using hk)
  simp only [inR, Bool.and_eq_true, decide_eq_true_eq] at h2
  omega
theorem fin_rise {a : GAuto} (ha : autoOk a = true) : ∀ k, k + 1 < a.finals.length → a.finals.getD k 0 < a.finals.getD (k + 1) 0 := by
  unfold autoOk at ha
  simp only [Bool.and_eq_true] at ha
  have h1 := ha.1.2
  intro k hk
  unfold risesOk allB at h1
  rw [List.all_eq_true] at h1
  have h2 := h1 (k + 1) (by simpa using hk)
  simp only [Bool.and_eq_true, Bool.or_eq_true, decide_eq_true_eq] at h2
  rcases h2.2 with h | h
  · simp at h
  · simpa using h
theorem fin_few {a : GAuto} (ha : autoOk a = true) : a.finals.length ≤ 24 := by
  have h3 := (autoOk_get ha).2.2.1
  have h4 := (autoOk_get ha).2.1
  have h1 : ∀ k, k < a.finals.length → (k : Int) ≤ a.finals.getD k 0 := by
    intro k
    induction k with
    | zero => intro hk; exact (fin_lt ha 0 hk).1
    | succ k ih => intro hk; have := ih (by omega); have := fin_rise ha k hk; omega
  by_cases h0 : a.finals.length = 0
  · omega
  · have h5 := h1 (a.finals.length - 1) (by omega)
    have h6 := (fin_lt ha (a.finals.length - 1) (by omega)).2
    omega
set_option maxRecDepth 100000 in
set_option maxHeartbeats 2000000 in
theorem implCountAccepted_any (v vR : Value) (a : GAuto) (xs : List GRule) (ls : List Int) (w : World) (h : AutoV w w.heap.size v a) (hR : Sl RuleE w w.heap.size vR xs) (ha : autoOk a = true) (hg : gramOk xs = true) (hl : lens xs = some ls) :
    Calls Try.prog 35 #[v, .agg #[vR]] w fun e w' => e = .returned (.tuple #[.int .i64 ((timesV a.finals (visOut a xs ls (lastI ls)) + if hasB a.finals a.start then 1 else 0 : Nat) : Int), .int .i64 0]) ∧ Below w.heap.size w w' := by
  have hn : xs.length ≤ 400 := (gram_lens hg).1
  have hB := fun o o' => (((Below.refl w.heap.size w).alloc (Nat.le_refl _) o).alloc (by simp) o')
  have HB := Lib.hid hB
  have HA := Lib.hid h
  have HR := Lib.hid hR
  have Ha := Lib.hid ha
  have Hg := Lib.hid hg
  have Hl := Lib.hid hl
  clear hB hg hl ha
  obtain ⟨vF, vN, rfl, hF, hN⟩ := h
  have HF := Lib.hid hF
  obtain ⟨AF, cF, rfl, _⟩ := hF
  obtain ⟨AN, cN, rfl, _⟩ := hN
  obtain ⟨AR, cR, rfl, _⟩ := hR
  go_enter Try.func35, Try.ntmps35
  go_wp2_with fail
  refine (newRide_any _ _ a xs _ ((HA.out.below (HB.out _ _)).le (by first | omega | (simp; done) | (simp; omega))) ((HR.out.below (HB.out _ _)).le (by first | omega | (simp; done) | (simp; omega))) (by omega)).mono ?_
  rintro e w1 ⟨hb1, hpost⟩
  have z1 : w.heap.size + 1 < w1.heap.size := Nat.lt_of_lt_of_le (by simp) hb1.size
  have A1 := Lib.hid (Box4.up (w := (w.alloc (Obj.cells #[.int .i64 a.states, .int .i64 a.start, .slice AF a.finals.length cF, .slice AN a.next.length cN] 45)).alloc (Obj.cells #[.slice AR xs.length cR] 31)) (b := w.heap.size) (c0 := .int .i64 a.states) (c1 := .int .i64 a.start) (c2 := .slice AF a.finals.length cF) (c3 := .slice AN a.next.length cN) ⟨by simp [go_sem], by simp [go_sem], by simp [go_sem], by simp [go_sem]⟩ hb1 (by simp; omega))
  have B1 := Lib.hid ((HB.out _ _).trans (hb1.mono (by simp; omega)))
  clear hb1
  rcases hpost with ⟨ls', vr, hl', hg', ha', rfl, hr⟩ | ⟨hno, _⟩
  · have e1 : ls' = ls := by have := hl'.symm.trans Hl.out; injection this
    subst e1
    clear hl' hg' ha'
    have Hr := Lib.hid hr
    obtain ⟨uF, uN, uR, uL, uM, rfl, k1, k2, k3, k4, k5⟩ := hr
    obtain ⟨B0, e0, rfl, _⟩ := k1
    obtain ⟨B1', e1, rfl, _⟩ := k2
    obtain ⟨B2', e2, rfl, _⟩ := k3
    obtain ⟨B3, e3, rfl, _⟩ := k4
    obtain ⟨B4, e4, rfl, _⟩ := k5
    have b12 := (Below.refl w1.heap.size w1).alloc (Nat.le_refl _) (Obj.cells #[.int .i64 a.states, .int .i64 a.start, .slice B0 a.finals.length e0, .slice B1' a.next.length e1, .slice B2' xs.length e2, .slice B3 ls'.length e3, .slice B4 (mapsOf a.next xs).length e4] 94)
    have R2 := Lib.hid (Box7.new (w := w1) (c0 := .int .i64 a.states) (c1 := .int .i64 a.start) (c2 := .slice B0 a.finals.length e0) (c3 := .slice B1' a.next.length e1) (c4 := .slice B2' xs.length e2) (c5 := .slice B3 ls'.length e3) (c6 := .slice B4 (mapsOf a.next xs).length e4) (t := 94) (Below.refl _ _))
    have z2 : w1.heap.size < (w1.alloc (Obj.cells #[.int .i64 a.states, .int .i64 a.start, .slice B0 a.finals.length e0, .slice B1' a.next.length e1, .slice B2' xs.length e2, .slice B3 ls'.length e3, .slice B4 (mapsOf a.next xs).length e4] 94)).heap.size := by simp
    go_upto_region 4 with fail
    generalize w1.alloc (Obj.cells #[.int .i64 a.states, .int .i64 a.start, .slice B0 a.finals.length e0, .slice B1' a.next.length e1, .slice B2' xs.length e2, .slice B3 ls'.length e3, .slice B4 (mapsOf a.next xs).length e4] 94) = w2 at *
    have Hr2 := Lib.hid (Hr.out.up b12)
    have B2 := Lib.hid (B1.out.trans (b12.mono (by omega)))
    have A2 := Lib.hid (A1.out.up b12 (by omega))
    have HF2 := Lib.hid (((HF.out.below B1.out).le (B' := w1.heap.size) (by omega)).up b12)
    obtain ⟨a0, a1, a2, a3⟩ := A2.out
    obtain ⟨r0, r1, r2, r3, r4, r5, r6⟩ := R2.out
    have zA : w.heap.size < w2.heap.size := by omega
    have hV := visOut_le Ha.out Hl.out (lastI ls')
    have hT := timesV_le (F := a.finals) hV
    have h24 := fin_few Ha.out
    have hT2 : timesV a.finals (visOut a xs ls' (lastI ls')) ≤ 24 * 1000000000000000 := Nat.le_trans hT (Nat.mul_le_mul_right _ h24)
    have HT := Lib.hid hT2
    clear b12 hV hT hT2
    go_cut [8] (fun q wx => q = .int .i64 (timesV a.finals (visOut a xs ls' (lastI ls')) : Nat) ∧ Below w2.heap.size w2 wx)
    case first =>
      have KB : Below w2.heap.size w2 w2.drew ∧ w2.drew.cell? ⟨w1.heap.size, 0, none⟩ = some (.int .i64 a.states) ∧ w2.drew.cell? ⟨w1.heap.size, 1, none⟩ = some (.int .i64 a.start) ∧ w2.drew.cell? ⟨w1.heap.size, 2, none⟩ = some (.slice B0 a.finals.length e0) ∧ w2.drew.cell? ⟨w1.heap.size, 3, none⟩ = some (.slice B1' a.next.length e1) ∧ w2.drew.cell? ⟨w1.heap.size, 4, none⟩ = some (.slice B2' xs.length e2) ∧ w2.drew.cell? ⟨w1.heap.size, 5, none⟩ = some (.slice B3 ls'.length e3) ∧ w2.drew.cell? ⟨w1.heap.size, 6, none⟩ = some (.slice B4 (mapsOf a.next xs).length e4) ∧ w2.drew.cell? ⟨w.heap.size, 2, none⟩ = some (.slice AF a.finals.length cF) :=
        ⟨drewB, r0, r1, r2, r3, r4, r5, r6, a2⟩
      go_region_held3 (fun w' => Below w2.heap.size w2 w' ∧ w'.cell? ⟨w1.heap.size, 0, none⟩ = some (.int .i64 a.states) ∧ w'.cell? ⟨w1.heap.size, 1, none⟩ = some (.int .i64 a.start) ∧ w'.cell? ⟨w1.heap.size, 2, none⟩ = some (.slice B0 a.finals.length e0) ∧ w'.cell? ⟨w1.heap.size, 3, none⟩ = some (.slice B1' a.next.length e1) ∧ w'.cell? ⟨w1.heap.size, 4, none⟩ = some (.slice B2' xs.length e2) ∧ w'.cell? ⟨w1.heap.size, 5, none⟩ = some (.slice B3 ls'.length e3) ∧ w'.cell? ⟨w1.heap.size, 6, none⟩ = some (.slice B4 (mapsOf a.next xs).length e4) ∧ w'.cell? ⟨w.heap.size, 2, none⟩ = some (.slice AF a.finals.length cF))
        (first | (with_reducible exact KB) | (with_reducible exact keep72 KB hb3 (Nat.le_refl _) z2 zA) | (with_reducible exact keep72 (keep72 KB hb3 (Nat.le_refl _) z2 zA) hb4 (Nat.le_refl _) z2 zA))
        (first
          | (go_at_call 70; refine (rideLength_any _ a xs ls' _ (Hr2.out.up drewB)).mono ?_; rintro e w3 ⟨rfl, hb3⟩)
          | (go_at_call 91; refine (times_vis _ _ a xs ls' a.finals _ _ ((Hr2.out.up drewB).up hb3) ((HF2.out.up drewB).up hb3) (fin_lt Ha.out) h24 Ha.out Hl.out (by omega)).mono ?_; rintro e w4 ⟨rfl, hb4⟩))
      have B6 := (drewB (w := w2)).trans (hb3.trans (hb4.mono hb3.size))
      go_wp2_with fail
      go_meet
      exact ⟨rfl, B6⟩
    case rest =>
      revert hcut
      generalize wc = w5
      intro hcut
      obtain ⟨rfl, hb5⟩ := hcut
      have A5 := Lib.hid (A2.out.up hb5 (by omega))
      have HF5 := Lib.hid (HF2.out.up hb5)
      have B5 := Lib.hid (B2.out.trans (hb5.mono (by omega)))
      clear a0 a1 a2 a3 r0 r1 r2 r3 r4 r5 r6 hb5
      obtain ⟨a0, a1, a2, a3⟩ := A5.out
      have hT := HT.out
      obtain ⟨T, hTe⟩ : ∃ T, timesV a.finals (visOut a xs ls' (lastI ls')) = T := ⟨_, rfl⟩
      rw [hTe] at hT
      rw [hTe]
      have HTe := Lib.hid hTe
      clear hTe HT
      have hw1 : IntKind.i64.wrap ((T : Int) + 1) = (T : Int) + 1 := IntWalk.i64_in _ (by omega)
      go_wp2_with fail
      refine (Contains_any _ a.finals _ _ HF5.out).mono ?_
      rintro e w6 ⟨rfl, kk, rfl⟩
      have B6 := Lib.hid (below_drewN B5.out kk)
      cases hh : hasB a.finals a.start with
      | true =>
        go_wp2_with fail
        all_goals
          go_ret2
          exact ⟨by rw [HTe.out]; rfl, B6.out⟩
      | false =>
        go_wp2_with fail
        all_goals
          go_ret2
          exact ⟨by rw [HTe.out]; rfl, B6.out⟩
  · rw [Ha.out, Hg.out] at hno; cases hno
set_option maxRecDepth 100000 in
set_option maxHeartbeats 2000000 in
theorem firstCl_any (w0 : World) (br bs : Nat) (a : GAuto) (xs : List GRule) (ls : List Int) (c0 c1 c2 c3 c4 c5 c6 : Value) (s : Nat) (hv : RideV w0 w0.heap.size (.agg #[c0, c1, c2, c3, c4, c5, c6]) a xs ls) (hbx : Box7 w0 br c0 c1 c2 c3 c4 c5 c6) (hbr : br < w0.heap.size) (hbs : bs < w0.heap.size) (hs : w0.cell? ⟨bs, 0, none⟩ = some (.int .i64 (s : Int))) (hss : s < a.next.length) (ha : autoOk a = true) (hl : lens xs = some ls) (hn : xs.length ≤ 4194304) :
    ∀ (j : Nat) (W : World), Below w0.heap.size w0 W → Calls Try.prog 93 (#[.int .i64 (j : Int)] ++ #[.pointer (some ⟨br, 0, none⟩), .pointer (some ⟨bs, 0, none⟩)]) W fun e W' => e = .returned (.int .i64 ((visOut a xs ls (j : Int)).getD s 0 : Nat)) ∧ Below W.heap.size W W' := by
  intro j W hb
  have HV := Lib.hid (hv.up hb)
  have HBx := Lib.hid (hbx.up hb hbr)
  have cs := (hb.cell (p := ⟨bs, 0, none⟩) hbs).trans hs
  have z1 : br < W.heap.size := Nat.lt_of_lt_of_le hbr hb.size
  have z2 : bs < W.heap.size := Nat.lt_of_lt_of_le hbs hb.size
  have Ha := Lib.hid ha
  have Hl := Lib.hid hl
  obtain ⟨vF, vN, vR, vL, vM, e, h1, h2, h3, h4, h5⟩ := hv
  injection e with e; simp at e; obtain ⟨rfl, rfl, rfl, rfl, rfl, rfl, rfl⟩ := e
  obtain ⟨B0, e0, rfl, _⟩ := h1
  obtain ⟨B1', e1, rfl, _⟩ := h2
  obtain ⟨B2', e2, rfl, _⟩ := h3
  obtain ⟨B3, e3, rfl, _⟩ := h4
  obtain ⟨B4, e4, rfl, _⟩ := h5
  obtain ⟨r0, r1, r2, r3, r4, r5, r6⟩ := HBx.out
  clear hb hs ha hl hbx
  show Calls Try.prog 93 #[.int .i64 (j : Int), .pointer (some ⟨br, 0, none⟩), .pointer (some ⟨bs, 0, none⟩)] W _
  go_enter Try.func93, Try.ntmps93
  go_wp2_with fail
  have ba := (Below.refl W.heap.size W).alloc (Nat.le_refl _) (Obj.cells #[.int .i64 (s : Int)] 2)
  have hsl : Sl IntE (W.alloc (Obj.cells #[.int .i64 (s : Int)] 2)) (W.alloc (Obj.cells #[.int .i64 (s : Int)] 2)).heap.size (.slice (some ⟨W.heap.size, 0, none⟩) 1 1) [(s : Int)] :=
    ⟨some ⟨W.heap.size, 0, none⟩, 1, rfl, Nat.le_refl _, by simp [maxLen], fun _ => ⟨W.heap.size, 0, rfl, by simp, fun k x hx => ⟨[.int .i64 x], rfl, fun i u hu => by
      match k, hx with
      | 0, hx =>
        simp at hx; subst hx
        match i, hu with
        | 0, hu => simp at hu; subst hu; simp [go_sem, IntE]
        | i + 1, hu => simp at hu
      | k + 1, hx => simp at hx⟩⟩⟩
  refine (times_vis _ _ a xs ls [(s : Int)] (j : Int) _ (HV.out.up ba) hsl (fun k hk => ?_) (by simp) Ha.out Hl.out hn).mono ?_
  · have : k = 0 := by simpa using hk
    subst this
    show 0 ≤ (s : Int) ∧ (s : Int) < _
    omega
  rintro e w3 ⟨rfl, hb3⟩
  have B3' := Lib.hid (ba.trans (hb3.mono ba.size))
  clear ba hb3
  go_wp2_with fail
  go_ret
  exact ⟨ret_int (by simp [timesV]), B3'.out⟩
def firstR (a : GAuto) (xs : List GRule) (ls : List Int) (n s : Nat) : Value :=
  if (s : Int) = a.start then .tuple #[.int .i64 0, .int .i64 0] else
    if (visOut a xs ls (n : Int)).getD s 0 < 1 then .tuple #[.int .i64 0, .int .i64 6] else .tuple #[.int .i64 (leastB (fun j => (visOut a xs ls (j : Int)).getD s 0) 1 n 0 n : Nat), .int .i64 0]
set_option maxRecDepth 100000 in
set_option maxHeartbeats 2000000 in
theorem implFirstVisit_any (v vR : Value) (a : GAuto) (xs : List GRule) (ls : List Int) (n s : Nat) (w : World) (h : AutoV w w.heap.size v a) (hR : Sl RuleE w w.heap.size vR xs) (ha : autoOk a = true) (hg : gramOk xs = true) (hl : lens xs = some ls) (hn9 : lastI ls = n) (hs : s < a.next.length) :
    Calls Try.prog 37 #[v, .agg #[vR], .int .i64 (s : Int)] w fun e w' => e = .returned (firstR a xs ls n s) ∧ Below w.heap.size w w' := by
  have Hn9 := Lib.hid hn9
  clear hn9
  have hn : xs.length ≤ 400 := (gram_lens hg).1
  have hB := fun o o' o'' => ((((Below.refl w.heap.size w).alloc (Nat.le_refl _) o).alloc (by simp) o').alloc (by simp; omega) o'')
  have HB := Lib.hid hB
  have HA := Lib.hid h
  have HR := Lib.hid hR
  have Ha := Lib.hid ha
  have Hg := Lib.hid hg
  have Hl := Lib.hid hl
  clear hB hg hl ha
  obtain ⟨vF, vN, rfl, hF, hN⟩ := h
  have HF := Lib.hid hF
  obtain ⟨AF, cF, rfl, _⟩ := hF
  obtain ⟨AN, cN, rfl, _⟩ := hN
  obtain ⟨AR, cR, rfl, _⟩ := hR
  go_enter Try.func37, Try.ntmps37
  go_wp2_with fail
  refine (newRide_any _ _ a xs _ ((HA.out.below (HB.out _ _ _)).le (by first | omega | (simp; done) | (simp; omega))) ((HR.out.below (HB.out _ _ _)).le (by first | omega | (simp; done) | (simp; omega))) (by omega)).mono ?_
  rintro e w1 ⟨hb1, hpost⟩
  have z1 : w.heap.size + 2 < w1.heap.size := Nat.lt_of_lt_of_le (by simp) hb1.size
  have A1 := Lib.hid (Box4.up (w := ((w.alloc (Obj.cells #[.int .i64 a.states, .int .i64 a.start, .slice AF a.finals.length cF, .slice AN a.next.length cN] 45)).alloc (Obj.cells #[.slice AR xs.length cR] 31)).alloc (Obj.cells #[.int .i64 (s : Int)] 2)) (b := w.heap.size) (c0 := .int .i64 a.states) (c1 := .int .i64 a.start) (c2 := .slice AF a.finals.length cF) (c3 := .slice AN a.next.length cN) ⟨by simp [go_sem], by simp [go_sem], by simp [go_sem], by simp [go_sem]⟩ hb1 (by simp; omega))
  have B1 := Lib.hid ((HB.out _ _ _).trans (hb1.mono (by simp; omega)))
  have y1 : w1.cell? ⟨w.heap.size + 1 + 1, 0, none⟩ = some (.int .i64 (s : Int)) := (hb1.cell (p := ⟨w.heap.size + 1 + 1, 0, none⟩) (by simp)).trans (by simp [go_sem])
  clear hb1
  rcases hpost with ⟨ls', vr, hl', hg', ha', rfl, hr⟩ | ⟨hno, _⟩
  · have e1 : ls' = ls := by have := hl'.symm.trans Hl.out; injection this
    subst e1
    clear hl' hg' ha'
    have Hr := Lib.hid hr
    obtain ⟨uF, uN, uR, uL, uM, rfl, k1, k2, k3, k4, k5⟩ := hr
    obtain ⟨B0, e0, rfl, _⟩ := k1
    obtain ⟨B1', e1, rfl, _⟩ := k2
    obtain ⟨B2', e2, rfl, _⟩ := k3
    obtain ⟨B3, e3, rfl, _⟩ := k4
    obtain ⟨B4, e4, rfl, _⟩ := k5
    have b12 := (Below.refl w1.heap.size w1).alloc (Nat.le_refl _) (Obj.cells #[.int .i64 a.states, .int .i64 a.start, .slice B0 a.finals.length e0, .slice B1' a.next.length e1, .slice B2' xs.length e2, .slice B3 ls'.length e3, .slice B4 (mapsOf a.next xs).length e4] 94)
    have R2 := Lib.hid (Box7.new (w := w1) (c0 := .int .i64 a.states) (c1 := .int .i64 a.start) (c2 := .slice B0 a.finals.length e0) (c3 := .slice B1' a.next.length e1) (c4 := .slice B2' xs.length e2) (c5 := .slice B3 ls'.length e3) (c6 := .slice B4 (mapsOf a.next xs).length e4) (t := 94) (Below.refl _ _))
    have z2 : w1.heap.size < (w1.alloc (Obj.cells #[.int .i64 a.states, .int .i64 a.start, .slice B0 a.finals.length e0, .slice B1' a.next.length e1, .slice B2' xs.length e2, .slice B3 ls'.length e3, .slice B4 (mapsOf a.next xs).length e4] 94)).heap.size := by simp
    go_upto_region 2 with fail
    generalize w1.alloc (Obj.cells #[.int .i64 a.states, .int .i64 a.start, .slice B0 a.finals.length e0, .slice B1' a.next.length e1, .slice B2' xs.length e2, .slice B3 ls'.length e3, .slice B4 (mapsOf a.next xs).length e4] 94) = w2 at *
    have Hr2 := Lib.hid (Hr.out.up b12)
    have B2 := Lib.hid (B1.out.trans (b12.mono (by omega)))
    have A2 := Lib.hid (A1.out.up b12 (by omega))
    have y2 := (b12.cell (p := ⟨w.heap.size + 1 + 1, 0, none⟩) (by show w.heap.size + 1 + 1 < _; omega)).trans y1
    have zS : w.heap.size + 1 + 1 < w2.heap.size := by omega
    have zA : w.heap.size < w2.heap.size := by omega
    have hAV : AutoV w2 w2.heap.size (.agg #[.int .i64 a.states, .int .i64 a.start, .slice AF a.finals.length cF, .slice AN a.next.length cN]) a := ((HA.out.below B1.out).le (by omega)).up b12
    have HAV := Lib.hid hAV
    have h3 := (autoOk_get Ha.out).2.2.1
    have hst := autoOk_start Ha.out
    have hin : inR (s : Int) 0 (a.states - 1) = true := by simp only [inR, Bool.and_eq_true, decide_eq_true_eq]; omega
    have Hin := Lib.hid hin
    clear b12 y1 hAV h3 hst hin
    obtain ⟨a0, a1, a2, a3⟩ := A2.out
    go_wp2_with fail
    refine (isState_any _ a (s : Int) _ HAV.out Ha.out).mono ?_
    rintro e w3 ⟨rfl, hb3⟩
    have A3 := Lib.hid (A2.out.up hb3 zA)
    have y3 := (hb3.cell (p := ⟨w.heap.size + 1 + 1, 0, none⟩) zS).trans y2
    have zS3 : w.heap.size + 1 + 1 < w3.heap.size := by have := hb3.size; omega
    have zA3 : w.heap.size < w3.heap.size := by omega
    have zR3 : w1.heap.size < w3.heap.size := by have := hb3.size; omega
    have R3 := Lib.hid (R2.out.up hb3 z2)
    have Hr3 := Lib.hid (Hr2.out.up hb3)
    have B3' := Lib.hid (B2.out.trans (hb3.mono (by omega)))
    clear hb3 y2 a0 a1 a2 a3
    rw [Hin.out]
    obtain ⟨a0, a1, a2, a3⟩ := A3.out
    by_cases hse : (s : Int) = a.start
    · have HE := Lib.hid hse
      have hb9 : ((s : Int) == a.start) = true := by simp [hse]
      clear hse
      go_wp2_with fail
      go_ret2
      exact ⟨by rw [firstR, if_pos HE.out]; rfl, B3'.out⟩
    · have HE := Lib.hid hse
      have hb9 : ((s : Int) == a.start) = false := by simpa using hse
      obtain ⟨r0, r1, r2, r3, r4, r5, r6⟩ := R3.out
      clear hse
      go_wp2_with fail
      have HL := least_any _ a xs ls' n 1 93 #[.pointer (some ⟨w1.heap.size, 0, none⟩), .pointer (some ⟨w.heap.size + 1 + 1, 0, none⟩)] (fun j => (visOut a xs ls' (j : Int)).getD s 0) w3 Hr3.out Hn9.out (by have := (lastI_bounds Hl.out).2; have := Hn9.out; omega)
        (enters_of Try.func93 (by kernel_rfl) rfl) (fun j W hb _ => firstCl_any w3 w1.heap.size (w.heap.size + 1 + 1) a xs ls' _ _ _ _ _ _ _ s Hr3.out R3.out zR3 zS3 y3 hs Ha.out Hl.out (by omega) j W hb)
      refine HL.mono ?_
      rintro e w4 ⟨rfl, hb4⟩
      have B4' := Lib.hid (B3'.out.trans (hb4.mono (by omega)))
      clear hb4 HL
      by_cases hc : (visOut a xs ls' (n : Int)).getD s 0 < 1
      · have HC := Lib.hid hc
        rw [leastR, if_pos hc]
        clear hc
        go_wp2_with fail
        go_ret2
        exact ⟨by rw [firstR, if_neg HE.out, if_pos HC.out]; rfl, B4'.out⟩
      · have HC := Lib.hid hc
        rw [leastR, if_neg hc]
        clear hc
        go_wp2_with fail
        go_ret2
        exact ⟨by rw [firstR, if_neg HE.out, if_neg HC.out]; rfl, B4'.out⟩
  · rw [Ha.out, Hg.out] at hno; cases hno
set_option maxRecDepth 100000 in
set_option maxHeartbeats 1000000 in
theorem f6ints_any (v v' : Value) (l : List Int) (w : World) (h : Sl IntE w w.heap.size v l) (h' : Sl IntE w w.heap.size v' l) :
    Calls Try.prog 36 #[v, v'] w fun e w' => e = .returned (.bool true) ∧ ∃ n, w' = w.drewN n := by
  obtain ⟨A, c, rfl, hq, hm, hrow⟩ := h
  obtain ⟨A', c', rfl, _, hm', hrow'⟩ := h'
  unfold maxLen at hm hm'
  have hlm : l.length ≤ 9223372036854775807 := by omega
  go_enter Try.func36, Try.ntmps36
  go_wp2_with fail
  go_loopw [5] (fun i wr => ∃ k : Nat, k ≤ l.length ∧ i = .int .i64 k ∧ ∃ m, wr = w.drewN m) (fun i _ => l.length - (intOf i).toNat)
  case atStart => exact ⟨0, Nat.zero_le _, rfl, 0, rfl⟩
  case round =>
    obtain ⟨k, hk, rfl, m, rfl⟩ := hrel
    by_cases hlt : k < l.length
    · have i1 : (k : Int) < (l.length : Int) := by omega
      obtain ⟨b, o, rfl, hb, hc⟩ := hrow.int hlt
      obtain ⟨b', o', rfl, hb', hc'⟩ := hrow'.int hlt
      have d := hc k hlt
      have d' := hc' k hlt
      generalize l.getD k 0 = x at *
      clear hc hc' hm hm' hq
      go_wp2_with fail
      go_quiet (fail)
      go_wp2_with fail
      go_roundw
      case rel => exact ⟨k + 1, by omega, by go_num, _, rfl⟩
      case measure => simp [intOf]; omega
    · have hkk : k = l.length := by omega
      subst hkk
      go_wp2_with fail
      go_ret
      exact ⟨rfl, m, rfl⟩
set_option maxRecDepth 100000 in
set_option maxHeartbeats 1000000 in
theorem f6rows_any (v v' : Value) (l : List (List Int)) (w : World) (h : Sl (SliceE IntE) w w.heap.size v l) (h' : Sl (SliceE IntE) w w.heap.size v' l) :
    Calls Try.prog 33 #[v, v'] w fun e w' => e = .returned (.bool true) ∧ ∃ n, w' = w.drewN n := by
  obtain ⟨A, c, rfl, hq, hm, hrow⟩ := h
  obtain ⟨A', c', rfl, _, hm', hrow'⟩ := h'
  unfold maxLen at hm hm'
  have hlm : l.length ≤ 9223372036854775807 := by omega
  go_enter Try.func33, Try.ntmps33
  go_wp2_with fail
  go_loopw [5] (fun i wr => ∃ k : Nat, k ≤ l.length ∧ i = .int .i64 k ∧ ∃ m, wr = w.drewN m) (fun i _ => l.length - (intOf i).toNat)
  case atStart => exact ⟨0, Nat.zero_le _, rfl, 0, rfl⟩
  case round =>
    obtain ⟨k, hk, rfl, m, rfl⟩ := hrel
    by_cases hlt : k < l.length
    · have i1 : (k : Int) < (l.length : Int) := by omega
      obtain ⟨b, o, rfl, hb, hc⟩ := hrow.sl hlt
      obtain ⟨b', o', rfl, hb', hc'⟩ := hrow'.sl hlt
      obtain ⟨x, hx⟩ : ∃ x, l[k]? = some x := ⟨_, List.getElem?_eq_getElem hlt⟩
      obtain ⟨u, d, hu⟩ := hc k x hx
      obtain ⟨u', d', hu'⟩ := hc' k x hx
      have HU := Lib.hid (fun j => f6ints_any u u' x (w.drewN j) hu hu')
      obtain ⟨Ax, cx, rfl, _⟩ := hu
      obtain ⟨Ax', cx', rfl, _⟩ := hu'
      clear hc hc' hm hm' hq hx
      go_wp2_with fail
      go_quiet (first | (with_reducible exact quiet_add (HU.out _)))
      go_wp2_with fail
      go_roundw
      case rel => exact ⟨k + 1, by omega, by go_num, _, rfl⟩
      case measure => simp [intOf]; omega
    · have hkk : k = l.length := by omega
      subst hkk
      go_wp2_with fail
      go_ret
      exact ⟨rfl, m, rfl⟩
set_option maxRecDepth 100000 in
set_option maxHeartbeats 1000000 in
theorem f6has_any (v : Value) (xs : List Int) (n : Int) (w : World) (h : Sl IntE w w.heap.size v xs) :
    Calls Try.prog 34 #[v, .int .i64 n] w fun e w' => e = .returned (.bool (hasB xs n)) ∧ w' = w := by
  obtain ⟨A, c, rfl, hc, hm, hrow⟩ := h
  unfold maxLen at hm
  go_enter Try.func34, Try.ntmps34
  go_wp2_with fail
  go_loopw [5] (fun i wr => ∃ k : Nat, k ≤ xs.length ∧ i = .int .i64 k ∧ wr = w ∧ ∀ (j : Nat) y, j < k → xs[j]? = some y → (n == y) = false) (fun i _ => xs.length - (intOf i).toNat)
  case atStart => exact ⟨0, Nat.zero_le _, rfl, rfl, fun j y hj => absurd hj (by omega)⟩
  case round =>
    obtain ⟨k, hk, rfl, rfl, hno⟩ := hrel
    have Hno := Lib.hid hno
    clear hno
    by_cases hlt : k < xs.length
    · obtain ⟨b, o, rfl, hbl, hcell⟩ := hrow.int hlt
      obtain ⟨x, hx⟩ : ∃ x, xs[k]? = some x := ⟨_, List.getElem?_eq_getElem hlt⟩
      have hc0 : wr.cell? ⟨b, o + k, none⟩ = some (.int .i64 x) := by rw [hcell k hlt, List.getD_eq_getElem?_getD, hx]; rfl
      have Hx := Lib.hid hx
      have i1 : (k : Int) < (xs.length : Int) := by omega
      clear hcell hx
      by_cases hp : (x == n) = true
      · have Hp := Lib.hid hp
        go_wp2
        go_ret
        exact ⟨ret_bool (by
          have : x = n := by simpa using Hp.out
          subst this
          exact (List.any_eq_true.2 ⟨x, List.mem_of_getElem? Hx.out, by simp⟩).symm), rfl⟩
      · have hp2 : (x == n) = false := by simpa using hp
        have Hp := Lib.hid hp2
        clear hp
        go_wp2
        go_roundw
        case rel =>
          refine ⟨k + 1, by omega, by go_num, trivial, fun j y hj hy => ?_⟩
          by_cases e : j = k
          · subst e
            have := Hx.out
            rw [hy] at this
            injection this with this
            have h2 := Hp.out
            rw [this]
            rw [beq_eq_false_iff_ne] at h2 ⊢
            exact fun e => h2 e.symm
          · exact Hno.out j y (by omega) hy
        case measure => simp [intOf]; omega
    · have hkk : k = xs.length := by omega
      subst hkk
      go_wp2
      go_ret
      exact ⟨ret_bool (by
        symm
        unfold hasB
        rw [List.any_eq_false]
        intro y hy
        obtain ⟨j, hj⟩ := List.mem_iff_getElem?.1 hy
        have := Hno.out j y (List.getElem?_eq_some_iff.1 hj).1 hj
        simpa using this), rfl⟩
theorem P6Grammar_any (v : Value) (l : List UInt8) (w : World) (h : Sl ByteE w w.heap.size v l) :
    Calls Try.prog 28 #[v] w fun e w' => ∃ u xs, e = .returned (.agg #[u]) ∧ Sl RuleE w' w'.heap.size u xs ∧ DrawnOk 8 xs ∧ Below w.heap.size w w' := by
  have HL := Lib.hid h
  obtain ⟨A, c, rfl, _⟩ := h
  go_enter Try.func28, Try.ntmps28
  go_wp2_with fail
  have ba := (Below.refl _ w).alloc (Nat.le_refl _) (.cells #[.slice none 0 0] 31)
  refine (from_any _ l _ (HL.out.up ba)).mono ?_
  rintro r w1 ⟨b, rfl, hb, hs, hb1⟩
  have KR1 := Lib.hid (Blk.up (Blk.new w #[.slice none 0 0] 31) hb1)
  have hbz : w.heap.size < b := by simp at hb; omega
  have HS := Lib.hid hs
  have HB := Lib.hid (ba.trans (hb1.mono ba.size))
  have hz1 : w.heap.size < w1.heap.size := KR1.out.lt
  clear hs hb1 ba hb
  go_wp2_with fail
  refine (l02Drawn_any b 0 8 _ HS.out (by omega)).mono ?_
  rintro r w2 ⟨u, xs, rfl, hsl, hok, hl, _, hb2⟩
  have KR2 := KR1.out.but hb2 (by omega)
  have cR := Blk.cell (i := 0) (v := .slice none 0 0) KR2 rfl
  have zR := Blk.frozen KR2 0
  have hz2 := hb2.size
  have HB2 := Lib.hid (HB.out.trans (hb2.below (B := w.heap.size) (by omega) (by omega)))
  have HSL := Lib.hid hsl
  clear hsl hb2 KR2
  obtain ⟨AX, cX, rfl, _⟩ := HSL.out
  go_wp2_with fail
  exact bodyPost_ret (v := .agg #[.slice AX xs.length cX]) (by simp [results, Try.results28, go_sem, cR]) rfl
    ⟨_, xs, rfl, (HSL.out.keep fun k hk => Below.heap_setCell w2 ⟨w.heap.size, 0, none⟩ _ k (by show k ≠ w.heap.size; omega)).more fun k hk => by simpa using hk.2, hok, HB2.out.setCell (p := ⟨w.heap.size, 0, none⟩) (Nat.le_refl _) _⟩
end Go.Proofs.Ytejgbfgocaggfaa
namespace Go.Proofs
open Go.Shelf
end Go.Proofs
namespace Go.Proofs.Ytejgbfgocaggfaa
open Go.RowKit
section
variable {xs : List GRule} {vR : Value} {bg bs b B : Nat}
end
def upV (xs : List GRule) : List UInt8 := if gramOk xs && decide ((wordG xs).length ≤ 2000) then wordG xs else []
def upC (xs : List GRule) : Int := if gramOk xs then (if (wordG xs).length ≤ 2000 then 0 else 3) else 1
set_option maxRecDepth 100000 in
set_option maxHeartbeats 2000000 in
theorem l02Letter_any (b o : Nat) (vR vL : Value) (xs : List GRule) (ls : List Int) (i : Int) (c : UInt8) (w : World) (hp : w.cell? ⟨b, o, none⟩ = some vR) (hR : Sl RuleE w w.heap.size vR xs) (hL : Sl IntE w w.heap.size vL ls)
    (hl : lens xs = some ls) (hn : xs.length ≤ 1099511627776) (hi : 0 ≤ i) (hc : (wordG xs)[i.toNat]? = some c) :
    Calls Try.prog 95 #[.pointer (some ⟨b, o, none⟩), vL, .int .i64 i] w fun e w' => e = .returned (.int .u8 c.toNat) ∧ w = w' := by
  have h0 : 0 < xs.length := by
    refine Nat.pos_of_ne_zero fun e => ?_
    have hx : xs = [] := List.eq_nil_of_length_eq_zero e
    subst hx
    simp [wordG] at hc
  have hll := lens_length hl
  rw [wordG_pos h0] at hc
  have hlt := (List.getElem?_eq_some_iff.1 hc).1
  have hWl := W1_len hl (xs.length - 1) (by omega)
  obtain ⟨AR, cR, rfl, _, hmR, hrowR⟩ := hR
  obtain ⟨AL, cL, rfl, _, hmL, hrowL⟩ := hL
  unfold maxLen at hmR hmL
  obtain ⟨bR, oR, rfl, hbR, hcR⟩ := hrowR.rule h0
  obtain ⟨bL, oL, rfl, hbL, hcL⟩ := hrowL.int (k := 0) (by omega)
  have HcR := Lib.hid hcR
  have HcL := Lib.hid hcL
  have Hll := Lib.hid hll
  have Hl := Lib.hid hl
  have hm1 : (xs.length : Int) - 1 = ((xs.length - 1 : Nat) : Int) := by omega
  obtain ⟨m, hm⟩ : ∃ m, xs.length - 1 = m := ⟨_, rfl⟩
  rw [hm] at hm1 hc hlt hWl
  have hmx : m < xs.length := by omega
  have Hc := Lib.hid hc
  have hq0 : i < ls.getD m 0 := by omega
  have Hq0 := Lib.hid hq0
  have Hm1 := Lib.hid hm1
  clear hrowR hrowL hcR hcL hll hl hc hlt hWl hm hq0
  go_enter Try.func95, Try.ntmps95
  go_wp2_with fail
  go_loopw [2, 7] (fun q a wx => ∃ (r : Nat) (z : Int), r < xs.length ∧ a = .int .i64 (r : Int) ∧ q = .int .i64 z ∧ 0 ≤ z ∧ z < ls.getD r 0 ∧ (W1 xs r)[z.toNat]? = some c ∧ wx = w) (fun _ a _ => (intOf a).toNat)
  case atStart => exact ⟨m, i, hmx, rfl, rfl, hi, Hq0.out, Hc.out, rfl⟩
  case round =>
    obtain ⟨r, z, hr, rfl, rfl, hz, hzl, hw, rfl⟩ := hrel
    obtain ⟨k0, k1, k2⟩ := HcR.out r _ (getR_at hr)
    have hri : (r : Int) < (xs.length : Int) := by omega
    have Hw := Lib.hid hw
    have Hzl := Lib.hid hzl
    obtain ⟨R, hR⟩ : ∃ R, getR xs r = R := ⟨_, rfl⟩
    rw [hR] at k0 k1 k2
    have HR := Lib.hid hR
    clear hw hzl hR hm1
    by_cases hp2 : R.letter.toList.isEmpty = true
    · have hpr : (getR xs r).pair = true := by rw [HR.out]; rw [isEmpty_size] at hp2; exact hp2
      obtain ⟨q1, q2, q3, q4, q5⟩ := lens_pair Hl.out hr hpr
      have hW := W1_pair Hl.out hr hpr
      rw [HR.out] at q1 q2 q3 q4 q5 hW
      obtain ⟨la, hla⟩ := Int.eq_ofNat_of_zero_le q1
      obtain ⟨ra, hra⟩ := Int.eq_ofNat_of_zero_le q3
      rw [hla] at q2 k1
      rw [hra] at q4 k2
      rw [hla, hra] at hW q5
      simp only [Int.toNat_natCast] at q2 q4 q5 hW
      have hlw := W1_len Hl.out la (by omega)
      have cl := HcL.out la (by have := Hll.out; omega)
      have hli : (la : Int) < (ls.length : Int) := by have := Hll.out; omega
      have hpl := lens_pos' Hl.out (r := la) (by omega)
      have hpr2 := lens_pos' Hl.out (r := r) hr
      obtain ⟨LA, hLA⟩ : ∃ x, ls.getD la 0 = x := ⟨_, rfl⟩
      rw [hLA] at cl hlw hpl q5
      have HLA := Lib.hid hLA
      have Hq5 := Lib.hid q5
      have Hlw := Lib.hid hlw
      have HW := Lib.hid hW
      have hzb : z ≤ 1000000000000000 := by have := Hzl.out; omega
      clear hpr q1 q3 hla hra hLA q5 hlw hW hpr2
      by_cases hc1 : z < LA
      · go_wp2_with fail
        refine ⟨⟨la, z, by omega, rfl, rfl, hz, by rw [HLA.out]; exact hc1, ?_, trivial⟩, by simp [intOf]; omega⟩
        have := Hw.out
        rwa [HW.out, List.getElem?_append_left (by have := Hlw.out; omega)] at this
      · go_wp2_with fail
        refine ⟨⟨ra, z - LA, by omega, rfl, rfl, by omega, by have := Hq5.out; have := Hzl.out; omega, ?_, trivial⟩, by simp [intOf]; omega⟩
        have := Hw.out
        rw [HW.out, List.getElem?_append_right (by have := Hlw.out; omega)] at this
        rwa [show z.toNat - (W1 xs la).length = (z - LA).toNat by have := Hlw.out; omega] at this
    · have hp3 : R.letter.toList.isEmpty = false := by simpa using hp2
      have hpr : (getR xs r).pair = false := by rw [HR.out]; rw [isEmpty_size] at hp3; exact hp3
      have hsz := isLet_size (lens_isLet Hl.out hr hpr)
      have hone := lens_letter Hl.out hr hpr
      have hW := W1_let hpr
      rw [HR.out] at hsz hW
      have hz0 : z = 0 := by have := Hzl.out; omega
      have hcc : R.letter.data.toList[0]? = some c := by
        have := Hw.out
        rw [hW, hz0] at this; exact this
      have hs0 : 0 < R.letter.size := by omega
      have hget : R.letter[0]'hs0 = c := by
        rw [toList_getElem? _ _ hs0] at hcc
        exact Option.some.inj hcc
      have Hget := Lib.hid hget
      clear hp2 hpr hone hW hz0 hcc hget
      go_wp2_with fail
      go_ret
      exact ⟨by rw [← Hget.out]; rfl, rfl⟩
theorem cutL_snoc {l : List UInt8} {i z : Int} {c : UInt8} (hi : 0 ≤ i) (hz : i ≤ z) (hc : l[z.toNat]? = some c) : cutL l i (z + 1) = cutL l i z ++ [c] := by
  have hlt := (List.getElem?_eq_some_iff.1 hc).1
  unfold cutL
  rw [show (z + 1).toNat = z.toNat + 1 by omega, List.take_add_one, hc, Option.toList_some, List.drop_append_of_le_length (by rw [List.length_take]; omega)]
theorem cutL_none (l : List UInt8) (i : Int) : cutL l i i = [] := cutL_nil (by omega)
set_option maxRecDepth 100000 in
set_option maxHeartbeats 2000000 in
theorem l02Unpack_any (b o : Nat) (v : Value) (xs : List GRule) (ls : List Int) (i j : Int) (w : World) (hp : w.cell? ⟨b, o, none⟩ = some v) (hbl : b < w.heap.size) (h : Sl RuleE w w.heap.size v xs) (hsm : SmallL xs) (hl : lens xs = some ls)
    (hn : xs.length ≤ 400) (hi : 0 ≤ i) (hij : i ≤ j) (hj : j ≤ lastI ls) (hbig : j - i ≤ 1000000) :
    Calls Try.prog 87 #[.pointer (some ⟨b, o, none⟩), .int .i64 i, .int .i64 j] w fun e w' => e = .returned (.string ⟨(cutL (wordG xs) i j).toArray⟩) ∧ Below w.heap.size w w' := by
  have HR := Lib.hid h
  obtain ⟨AR, cR, rfl, _⟩ := h
  have Hl := Lib.hid hl
  have hwl := wordG_len hl
  have hlb := (lastI_bounds hl).2
  have hd4 : decide (xs.length ≤ 400) = true := by simp [hn]
  clear hl
  go_enter Try.func87, Try.ntmps87
  go_wp2_with fail
  refine (l02Lengths_any _ _ _ xs _ hp hbl HR.out hsm).mono ?_
  rintro e w2 ⟨hb2, v2, ls', rfl, own2, hls⟩
  have e4 : ls' = ls := hls hn ls Hl.out
  subst e4
  obtain ⟨A2, c2, rfl, _⟩ := own_nil own2
  have p2 := (hb2.cell (p := ⟨b, o, none⟩) hbl).trans hp
  have z2 : b < w2.heap.size := Nat.lt_of_lt_of_le hbl hb2.size
  have HL2 := Lib.hid own2.sl
  have HR2 := Lib.hid (HR.out.up hb2)
  have HB2 := Lib.hid hb2
  clear hb2 own2 hls hp
  go_wp2_with fail
  go_loopw [9, 10] (fun q a wx => ∃ (k : Nat) (z : Int) (g c : Nat) (l : List UInt8), z = i + k ∧ z ≤ j ∧ a = .int .i64 z ∧ q = .slice (some ⟨g, 0, none⟩) l.length c ∧ l = cutL (wordG xs) i z ∧ OwnB wx w2.heap.size q l ∧ Below w2.heap.size w2 wx) (fun _ a _ => (j - intOf a).toNat)
  case atStart => exact ⟨0, i, _, 0, [], by omega, hij, rfl, rfl, (cutL_none _ _).symm, OwnB.empty rfl (Nat.le_refl _), (Below.refl _ _).alloc (Nat.le_refl _) _⟩
  case round =>
    obtain ⟨k, z, g, c, l, hz, hzj, rfl, rfl, hlc, hown, hb3⟩ := hrel
    have Hown := Lib.hid hown
    have HB3 := Lib.hid hb3
    have Hlc := Lib.hid hlc
    have hll : (l.length : Int) = z - i := by rw [hlc]; exact cutL_len hi (by omega) (by omega)
    have p3 := (hb3.cell (p := ⟨b, o, none⟩) z2).trans p2
    have HL3 := Lib.hid ((HL2.out.below hb3).le hb3.size)
    have HR3 := Lib.hid ((HR2.out.below hb3).le hb3.size)
    have hcv := OwnB.string hown
    have HLL : Hid (l.length ≤ 1099511627776) := by rw [Hid]; omega
    have hs3 : w2.heap.size ≤ wr.heap.size := hb3.size
    have Hz0 := Lib.hid hz
    have hiz : i ≤ z := by omega
    clear hown hb3 hlc hz
    by_cases hlt : z < j
    · obtain ⟨x, hx⟩ : ∃ x, (wordG xs)[z.toNat]? = some x := ⟨_, List.getElem?_eq_getElem (by omega)⟩
      have Hx := Lib.hid hx
      have Lt := Lib.hid (l02Letter_any b o _ (.slice A2 ls'.length c2) xs ls' z x wr p3 HR3.out HL3.out Hl.out (by omega) (by omega) hx)
      have hzm : z ≤ 1000000000000000 := by omega
      have Hll := Lib.hid hll
      clear hx hcv hll
      go_wp2_with fail
      (with_reducible refine Lt.out.mono ?_)
      rintro e w4 ⟨rfl, rfl⟩
      go_wp2_with (first
        | (at_builtin; refine push_byte (base := w2.heap.size) (v := .slice (some ⟨g, 0, none⟩) l.length c) (l := l) (y := x) rfl _ _ rfl rfl rfl rfl Hown.out HLL.out hs3 ?_; intro v5 w5 own5 hg5 hb5; obtain ⟨g5, c5, rfl⟩ := own5.some_ (by simp)))
      have e5 : (l ++ [x]).length = l.length + 1 := by simp
      refine ⟨⟨k + 1, z + 1, g5, c5, l ++ [x], by have := Hz0.out; omega, by omega, rfl, by rw [e5], ?_, by rw [← e5]; exact own5, HB3.out.trans hb5⟩, by simp [intOf]; omega⟩
      rw [cutL_snoc hi (by omega) Hx.out, Hlc.out]
    · have hzj2 : z = j := by omega
      have Hz := Lib.hid hzj2
      clear hll hzj2
      go_wp2_with fail
      go_ret
      exact ⟨by rw [← Hz.out, ← Hlc.out]; rfl, HB2.out.trans (HB3.out.mono HB2.out.size)⟩
theorem up_bad {xs : List GRule} (h : gramOk xs = false) : upV xs = [] ∧ upC xs = 1 := by simp [upV, upC, h]
theorem up_long {xs : List GRule} (h : gramOk xs = true) (hl : ¬ (wordG xs).length ≤ 2000) : upV xs = [] ∧ upC xs = 3 := by
  unfold upV upC
  rw [h, decide_eq_false hl]
  simp [hl]
theorem up_ok {xs : List GRule} (h : gramOk xs = true) (hl : (wordG xs).length ≤ 2000) : upV xs = wordG xs ∧ upC xs = 0 := by
  unfold upV upC
  rw [h, decide_eq_true hl]
  simp [hl]
set_option maxRecDepth 100000 in
set_option maxHeartbeats 1000000 in
theorem specUnpackWord_any (v : Value) (xs : List GRule) (w : World) (h : Sl RuleE w w.heap.size v xs) (hsm : SmallL xs) :
    Calls Try.prog 29 #[.agg #[v]] w fun e w' => e = .returned (.tuple #[.string ⟨(upV xs).toArray⟩, .int .i64 (upC xs)]) ∧ Below w.heap.size w w' := by
  have HG := Lib.hid h
  obtain ⟨A, c, rfl, _⟩ := h
  have b1 := (Below.refl w.heap.size w).alloc (Nat.le_refl _) (Obj.cells #[.slice A xs.length c] 31)
  have KP := Blk.new w #[.slice A xs.length c] 31
  go_enter Try.func29, Try.ntmps29
  go_upto_region 1 with fail
  generalize (w.alloc (Obj.cells #[.slice A xs.length c] 31)) = w0 at *
  have KB := Lib.hid b1
  clear b1
  have cP0_1 := Blk.cell (i := 0) (v := .slice A xs.length c) KP rfl
  have lP_2 := Blk.lt KP
  go_wp2_with fail
  refine (l02Ok_any w.heap.size 0 _ xs _ cP0_1 (Blk.lt KP) (HG.out.up KB.out) hsm).mono ?_
  rintro e w1 ⟨rfl, hb_3⟩
  have z_w1 : w0.heap.size ≤ w1.heap.size := hb_3.size
  have KB_4 := Lib.hid (Below.tr KB.out hb_3)
  have KP_5 := Blk.up KP hb_3
  clear cP0_1 lP_2 KB KP
  cases hg : gramOk xs with
  | false =>
    have HQ := Lib.hid (up_bad hg)
    clear hg
    go_wp2_with fail
    go_ret2
    exact ⟨by rw [HQ.out.1, HQ.out.2]; rfl, KB_4.out⟩
  | true =>
    obtain ⟨h4, ls, hl⟩ := gram_lens hg
    have HGG := Lib.hid hg
    have HL := Lib.hid hl
    have hwl := wordG_len hl
    have hlb := lastI_bounds hl
    clear hg hl
    have cP0_6 := Blk.cell (i := 0) (v := .slice A xs.length c) KP_5 rfl
    have lP_7 := Blk.lt KP_5
    go_wp2_with fail
    refine (l02Length_any w.heap.size 0 _ xs ls _ HL.out cP0_6 (Blk.lt KP_5) (HG.out.up KB_4.out) hsm (by omega)).mono ?_
    rintro e w2 ⟨rfl, hb_8⟩
    have z_w2 : w1.heap.size ≤ w2.heap.size := hb_8.size
    have KB_9 := Lib.hid (Below.tr KB_4.out hb_8)
    have KP_10 := Blk.up KP_5 hb_8
    clear hb_3 cP0_6 lP_7 KB_4 KP_5
    by_cases hbig : (2000 : Int) < lastI ls
    · have HQ := Lib.hid (up_long HGG.out (by omega))
      go_wp2_with fail
      go_ret2
      exact ⟨by rw [HQ.out.1, HQ.out.2]; rfl, KB_9.out⟩
    · have HQ := Lib.hid (up_ok HGG.out (by omega))
      have hcut : cutL (wordG xs) 0 (lastI ls) = wordG xs := cutL_all (Int.le_refl _) (by omega)
      have HC := Lib.hid hcut
      clear hcut
      have cP0_11 := Blk.cell (i := 0) (v := .slice A xs.length c) KP_10 rfl
      have lP_12 := Blk.lt KP_10
      go_wp2_with fail
      refine (l02Unpack_any w.heap.size 0 _ xs ls 0 (lastI ls) _ cP0_11 (Blk.lt KP_10) (HG.out.up KB_9.out) hsm HL.out h4 (by omega) (by omega) (by omega) (by omega)).mono ?_
      rintro e w3 ⟨rfl, hb_13⟩
      have z_w3 : w2.heap.size ≤ w3.heap.size := hb_13.size
      have KB_14 := Lib.hid (Below.tr KB_9.out hb_13)
      have KP_15 := Blk.up KP_10 hb_13
      clear hb_8 cP0_11 lP_12 KB_9 KP_10
      go_wp2_with fail
      go_ret2
      exact ⟨by rw [HQ.out.1, HQ.out.2, HC.out]; rfl, KB_14.out⟩
theorem drawnW {most : Int} {xs : List GRule} (h : DrawnOk most xs) (h1 : 1 ≤ most) (h2 : most ≤ 2000) : upV xs = wordG xs ∧ upC xs = 0 ∧ ((wordG xs).length : Int) = gramLen xs ∧ ((wordG xs).length : Int) ≤ most := by
  obtain ⟨hg, h0, hm, _⟩ := h
  obtain ⟨h4, ls, hl⟩ := gram_lens hg
  have hw := wordG_len hl
  have hgl := gramLen_of hl
  have := hm h1
  obtain ⟨k1, k2⟩ := up_ok hg (by omega)
  exact ⟨k1, k2, by omega, by omega⟩
end Go.Proofs.Ytejgbfgocaggfaa
