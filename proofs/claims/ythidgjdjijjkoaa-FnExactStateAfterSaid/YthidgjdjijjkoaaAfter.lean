import Derived.Test.YthidgjdjijjkoaaAccepts
namespace Go.Proofs.Ythidgjdjijjkoaa
open Go.RowKit

/-- The rules by which the first n letters of a rule's word are read. -/
def aftR (xs : List GRule) (ls : List Int) : Nat → Nat → Int → List Nat
  | 0, _, _ => []
  | f + 1, r, n => if n ≤ 0 then [] else if n = ls.getD r 0 then [r] else
      if ls.getD (getR xs r).left.toNat 0 ≤ n then (getR xs r).left.toNat :: aftR xs ls f (getR xs r).right.toNat (n - ls.getD (getR xs r).left.toNat 0) else aftR xs ls f (getR xs r).left.toNat n
theorem aftR_done (xs : List GRule) (ls : List Int) (f r : Nat) {n : Int} (h : n ≤ 0) : aftR xs ls f r n = [] := by
  cases f with
  | zero => rfl
  | succ f => rw [aftR, if_pos h]
theorem coverR_out (xs : List GRule) (ls : List Int) (i : Int) (f r : Nat) {j p : Int} (h : j ≤ p) : coverR xs ls i j f r p = [] := by
  cases f with
  | zero => rfl
  | succ f => rw [coverR, if_pos (Or.inr h)]
theorem cover_aft {xs : List GRule} {ls : List Int} (hl : lens xs = some ls) : ∀ (f r : Nat) (p n : Int), r < f → r < xs.length → 0 ≤ p → n ≤ ls.getD r 0 → coverR xs ls 0 (p + n) f r p = aftR xs ls f r n := by
  intro f
  induction f with
  | zero => intro r p n hr; omega
  | succ f ih =>
    intro r p n hr hx hp hn
    have h1 := lens_pos' hl hx
    by_cases c1 : n ≤ 0
    · rw [aftR_done _ _ _ _ c1, coverR_out _ _ _ _ _ (by omega)]
    rw [coverR, aftR, if_neg (by omega), if_neg c1]
    by_cases c2 : n = ls.getD r 0
    · rw [if_pos ⟨hp, by omega⟩, if_pos c2]
    rw [if_neg (by omega), if_neg c2]
    cases hpair : (getR xs r).pair with
    | false => have := lens_letter hl hx hpair; omega
    | true =>
      obtain ⟨q1, q2, q3, q4, q5⟩ := lens_pair hl hx hpair
      have hL := lens_pos' hl (r := (getR xs r).left.toNat) (by omega)
      by_cases c3 : ls.getD (getR xs r).left.toNat 0 ≤ n
      · rw [if_pos c3]
        obtain ⟨g, rfl⟩ : ∃ g, f = g + 1 := ⟨f - 1, by omega⟩
        have e1 : coverR xs ls 0 (p + n) (g + 1) (getR xs r).left.toNat p = [(getR xs r).left.toNat] := by
          rw [coverR, if_neg (by omega), if_pos ⟨hp, by omega⟩]
        have e2 := ih (getR xs r).right.toNat (p + ls.getD (getR xs r).left.toNat 0) (n - ls.getD (getR xs r).left.toNat 0) (by omega) (by omega) (by omega) (by omega)
        rw [show p + ls.getD (getR xs r).left.toNat 0 + (n - ls.getD (getR xs r).left.toNat 0) = p + n by omega] at e2
        rw [e1, e2]; rfl
      · rw [if_neg c3, ih _ _ _ (by omega) (by omega) hp (by omega), coverR_out _ _ _ _ _ (by omega), List.append_nil]
theorem pieces_aft {xs : List GRule} {ls : List Int} (hl : lens xs = some ls) {n : Int} (hn : n ≤ lastI ls) (h0 : 0 < xs.length) : piecesL xs ls 0 n = aftR xs ls xs.length (xs.length - 1) n := by
  have hll := lens_length hl
  have e : lastI ls = ls.getD (xs.length - 1) 0 := by rw [lastI, hll]
  have := cover_aft hl xs.length (xs.length - 1) 0 n (by omega) (by omega) (by omega) (by omega)
  rw [show (0 : Int) + n = n by omega] at this
  rw [← this]
  unfold piecesL
  by_cases hn0 : 0 < n
  · rw [if_pos ⟨h0, hn0⟩]
  · rw [if_neg (by omega), coverR_out _ _ _ _ _ (by omega)]

theorem wpB {C : Prop} [Decidable C] (h : C) : decide C = true := by simp [h]
/-- What the loop of l04After keeps. -/
def AftInv (xs : List GRule) (ls : List Int) (maps : List (List Int)) (n T : Nat) (r : Int) (s : Nat) (m : Int) : Prop :=
  s < n ∧ ((m ≤ 0 ∧ s = T) ∨ (0 < m ∧ ∃ rn f : Nat, r = rn ∧ rn < f ∧ rn < xs.length ∧ m ≤ ls.getD rn 0 ∧ (aftR xs ls f rn m).foldl (stepM maps) s = T))
theorem AftInv.fin {xs : List GRule} {ls : List Int} {maps : List (List Int)} {n T s : Nat} {r m : Int} (h : AftInv xs ls maps n T r s m) (hm : m ≤ 0) : s = T := by
  rcases h.2 with h | h <;> omega
theorem AftInv.get {xs : List GRule} {ls : List Int} {maps : List (List Int)} {n T s : Nat} {r m : Int} (h : AftInv xs ls maps n T r s m) (hm : 0 < m) (hl : lens xs = some ls) (hok : RowsOk n maps) (hml : maps.length = xs.length) :
    ∃ rn : Nat, r = rn ∧ rn < xs.length ∧ ((m = ls.getD rn 0 ∧ stepM maps s rn = T) ∨ (m ≠ ls.getD rn 0 ∧ ∃ a b : Nat, (getR xs rn).left = a ∧ (getR xs rn).right = b ∧ a < rn ∧ b < rn ∧
      ((ls.getD a 0 ≤ m ∧ AftInv xs ls maps n T b (stepM maps s a) (m - ls.getD a 0)) ∨ (m < ls.getD a 0 ∧ AftInv xs ls maps n T a s m)))) := by
  rcases h.2 with h2 | ⟨_, rn, f, rfl, hf, hx, hle, hT⟩
  · omega
  refine ⟨rn, rfl, hx, ?_⟩
  obtain ⟨g, rfl⟩ : ∃ g, f = g + 1 := ⟨f - 1, by omega⟩
  rw [aftR, if_neg (by omega)] at hT
  by_cases c2 : m = ls.getD rn 0
  · rw [if_pos c2] at hT
    exact Or.inl ⟨c2, hT⟩
  rw [if_neg c2] at hT
  refine Or.inr ⟨c2, ?_⟩
  cases hpair : (getR xs rn).pair with
  | false => have := lens_letter hl hx hpair; omega
  | true =>
    obtain ⟨q1, q2, q3, q4, q5⟩ := lens_pair hl hx hpair
    refine ⟨(getR xs rn).left.toNat, (getR xs rn).right.toNat, by omega, by omega, q2, q4, ?_⟩
    have hs := h.1
    by_cases c3 : ls.getD (getR xs rn).left.toNat 0 ≤ m
    · rw [if_pos c3, List.foldl_cons] at hT
      have hst : stepM maps s (getR xs rn).left.toNat < n := by
        have := (hok (getR xs rn).left.toNat (by omega)).2 s hs
        unfold stepM; omega
      refine Or.inl ⟨c3, hst, ?_⟩
      by_cases c4 : m - ls.getD (getR xs rn).left.toNat 0 ≤ 0
      · rw [aftR_done _ _ _ _ c4] at hT
        exact Or.inl ⟨c4, hT⟩
      · exact Or.inr ⟨by omega, _, g, rfl, by omega, by omega, by omega, hT⟩
    · rw [if_neg c3] at hT
      exact Or.inr ⟨by omega, hs, Or.inr ⟨hm, _, g, rfl, by omega, by omega, by omega, hT⟩⟩

set_option maxRecDepth 100000 in
set_option maxHeartbeats 2000000 in
theorem l04After_any (bg og : Nat) (vL vM vR : Value) (xs : List GRule) (ls : List Int) (maps : List (List Int)) (n T : Nat) (r : Int) (s : Nat) (m : Int) (w : World) (hl : lens xs = some ls) (hok : RowsOk n maps) (hml : maps.length = xs.length)
    (hL : Sl IntE w w.heap.size vL ls) (hM : Sl (SliceE IntE) w w.heap.size vM maps) (hR : Sl RuleE w w.heap.size vR xs) (hp : w.cell? ⟨bg, og, none⟩ = some vR) (hbg : bg < w.heap.size) (hi : AftInv xs ls maps n T r s m) :
    Calls Try.prog 92 #[.pointer (some ⟨bg, og, none⟩), vL, vM, .int .i64 r, .int .i64 s, .int .i64 m] w fun e w' => e = .returned (.int .i64 (T : Nat)) ∧ Below w.heap.size w w' := by
  have Hl := Lib.hid hl
  have Hok := Lib.hid hok
  have Hml := Lib.hid hml
  have hll := lens_length hl
  have Hi := Lib.hid hi
  obtain ⟨AL, cL, rfl, _, hmL, hrowL⟩ := hL
  obtain ⟨AM, cM, rfl, _, hmM, hrowM⟩ := hM
  obtain ⟨AR, cR, rfl, _, hmR, hrowR⟩ := hR
  unfold maxLen at hmL hmM hmR
  clear hl hok hml hi
  go_enter Try.func92, Try.ntmps92
  go_wp2_with fail
  go_loopw [3, 4, 5] (fun r s m wr => ∃ (rz : Int) (s' : Nat) (mz : Int), r = .int .i64 rz ∧ s = .int .i64 s' ∧ m = .int .i64 mz ∧ Hid (AftInv xs ls maps n T rz s' mz) ∧ Below w.heap.size w wr) (fun r _ _ _ => (intOf r).toNat)
  case atStart => exact ⟨r, s, m, rfl, rfl, rfl, Hi, Below.refl _ _⟩
  case round =>
    obtain ⟨rz, s', mz, rfl, rfl, rfl, hinv, hb⟩ := hrel
    have hsz : w.heap.size ≤ wr.heap.size := hb.size
    have HB := Lib.hid hb
    have hpg := (hb.cell (p := ⟨bg, og, none⟩) hbg).trans hp
    by_cases hm0 : mz ≤ 0
    · have hfin := hinv.out.fin hm0
      have HF := Lib.hid hfin
      have c0 : ¬ (0 < mz) := by omega
      clear hfin hb
      go_wp2_with fail
      go_ret
      exact ⟨ret_int (by rw [HF.out]), HB.out⟩
    · have hs' := hinv.out.1
      obtain ⟨rn, rfl, hx, hc⟩ := hinv.out.get (by omega) Hl.out Hok.out Hml.out
      obtain ⟨b1, o1, rfl, hb1, hcellL⟩ := hrowL.int (k := rn) (by omega)
      obtain ⟨b2, o2, rfl, hb2, hcellR⟩ := hrowR.rule (k := rn) hx
      have hcL := fun (k : Nat) (hk : k < xs.length) => (hb.cell (p := ⟨b1, o1 + k, none⟩) hb1).trans (hcellL k (by omega))
      obtain ⟨b, o, rfl, hbb, hcells⟩ := cells2 hrowM (by have := Hml.out; omega)
      have hM2 : ∀ k, k < xs.length → ∃ b' o' c' : Nat, wr.cell? ⟨b, o + k, none⟩ = some (.slice (some ⟨b', o', none⟩) n c') ∧ wr.cell? ⟨b', o' + s', none⟩ = some (.int .i64 ((stepM maps s' k : Nat) : Int)) ∧ b' < wr.heap.size := by
        intro k hk
        have hk' : k < maps.length := by have := Hml.out; omega
        have r1 := Hok.out k hk'
        obtain ⟨b', o', c', d1, d2, d3⟩ := hcells k s' hk' (by rw [r1.1]; exact hs')
        have e1 : (maps.getD k []).getD s' 0 = ((stepM maps s' k : Nat) : Int) := by
          have := (r1.2 s' hs').1
          unfold stepM; omega
        rw [e1] at d3
        rw [r1.1] at d1
        exact ⟨b', o', c', (hb.cell (p := ⟨b, o + k, none⟩) hbb).trans d1, (hb.cell (p := ⟨b', o' + s', none⟩) d2).trans d3, Nat.lt_of_lt_of_le d2 hsz⟩
      have hcl := hcL rn hx
      have hri : (rn : Int) < (xs.length : Int) := by omega
      have hri2 : (rn : Int) < (ls.length : Int) := by omega
      have hri3 : (rn : Int) < (maps.length : Int) := by have := Hml.out; omega
      have hsi : (s' : Int) < (n : Int) := by omega
      have c0 : 0 < mz := by omega
      have y1 : b1 < wr.heap.size := by omega
      have y2 : b < wr.heap.size := by omega
      have HML := Hml
      have hml2 : maps.length = xs.length := Hml.out
      clear hcells hcellL hm0
      rcases hc with ⟨e1, e2⟩ | ⟨e1, la, ra, h1, h2, h3, h4, hc⟩
      · obtain ⟨b', o', c', d1, d2, d5⟩ := hM2 rn hx
        rw [e2] at d2
        obtain ⟨LR, hLR⟩ : ∃ x, ls.getD rn 0 = x := ⟨_, rfl⟩
        rw [hLR] at hcl e1
        subst e1
        clear hLR hM2 hcL hb hcellR
        go_wp2_with fail
        go_ret
        exact ⟨rfl, HB.out⟩
      · obtain ⟨k0, k1, k2⟩ := hcellR rn _ (getR_at hx)
        have hc0 := (hb.cell (p := ⟨b2, o2 + rn * 3, none⟩) hb2).trans k0
        have hc1 := (hb.cell (p := ⟨b2, o2 + rn * 3 + 1, none⟩) hb2).trans k1
        have hc2 := (hb.cell (p := ⟨b2, o2 + rn * 3 + 2, none⟩) hb2).trans k2
        rw [h1] at hc1
        rw [h2] at hc2
        obtain ⟨b', o', c', d1, d2, d5⟩ := hM2 la (by omega)
        have hca := hcL la (by omega)
        have g1 : (mz == ls.getD rn 0) = false := by rw [beq_eq_false_iff_ne]; exact e1
        have hai : (la : Int) < (xs.length : Int) := by omega
        have hai2 : (la : Int) < (ls.length : Int) := by omega
        have hai3 : (la : Int) < (maps.length : Int) := by omega
        have hpa := lens_pos' Hl.out (r := la) (by omega)
        have hpr := lens_pos' Hl.out (r := rn) (by omega)
        have hmle : mz ≤ ls.getD rn 0 := by
          rcases hinv.out.2 with h | ⟨_, q, f, h, _, _, h', _⟩
          · omega
          · have : q = rn := by omega
            subst this; exact h'
        obtain ⟨LR, hLR⟩ : ∃ x, ls.getD rn 0 = x := ⟨_, rfl⟩
        obtain ⟨LA, hLA⟩ : ∃ x, ls.getD la 0 = x := ⟨_, rfl⟩
        rw [hLR] at hcl g1 hmle hpr
        rw [hLA] at hca hpa hc
        obtain ⟨lt, hlt⟩ : ∃ x, (getR xs rn).letter = x := ⟨_, rfl⟩
        rw [hlt] at hc0
        clear hM2 hcL hb hcellR k0 k1 k2 h1 h2 hLR hLA e1 hlt
        rcases hc with ⟨c1, hn⟩ | ⟨c1, hn⟩
        · have Hn := Lib.hid hn
          have hwr : IntKind.i64.wrap (mz - LA) = mz - LA := IntWalk.i64_in _ (by omega)
          clear hn
          go_wp2_with fail
          go_roundw
          case rel => exact ⟨_, _, _, rfl, rfl, rfl, Hn, (by repeat (first | exact HB.out | (refine Below.alloc ?_ (by first | omega | (simp; done) | (simp; omega)) _) | refine below_drewN ?_ _ | refine Below.drew ?_))⟩
          case measure => simp [intOf]; omega
        · have Hn := Lib.hid hn
          have c2 : ¬ (LA ≤ mz) := by omega
          clear hn
          go_wp2_with fail
          go_roundw
          case rel => exact ⟨_, _, _, rfl, rfl, rfl, Hn, (by repeat (first | exact HB.out | (refine Below.alloc ?_ (by first | omega | (simp; done) | (simp; omega)) _) | refine below_drewN ?_ _ | refine Below.drew ?_))⟩
          case measure => simp [intOf]; omega
end Go.Proofs.Ythidgjdjijjkoaa
