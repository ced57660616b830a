import Derived.Test.YtoemoifeiigkoaaRules
namespace Go.Proofs.Ytoemoifeiigkoaa
open Go.RowKit

theorem set3 (rs : List GRule) (k : Nat) (r : GRule) (h : k < rs.length) :
    (((rs.flatMap GRule.cells).set (k * 3) (.string r.letter)).set (k * 3 + 1) (.int .i64 r.left)).set (k * 3 + 2) (.int .i64 r.right) = (rs.set k r).flatMap GRule.cells := by
  induction rs generalizing k with
  | nil => simp at h
  | cons x xs ih =>
    cases k with
    | zero => simp [GRule.cells]
    | succ k =>
      have := ih k (by simpa using h)
      simp only [List.flatMap_cons, List.set_cons_succ]
      have e : (GRule.cells x).length = 3 := rfl
      rw [List.set_append, if_neg (by omega), e, List.set_append, if_neg (by omega), e, List.set_append, if_neg (by omega), e]
      rw [show (k+1)*3-3 = k*3 by omega, show (k+1)*3+1-3 = k*3+1 by omega, show (k+1)*3+2-3 = k*3+2 by omega, this]

theorem grown_trans {a b c : World} {g : Nat} (h : a.grownBy b (some g)) (k : b.grownBy c (some g)) : a.grownBy c (some g) :=
  ⟨k.os.trans h.os, k.tape.trans h.tape, k.output.trans h.output, Nat.le_trans h.size k.size, fun i hi hne => (k.block i (Nat.lt_of_lt_of_le hi h.size) hne).trans (h.block i hi hne)⟩

theorem OwnRules.stored3 {w : World} {base g n cap : Nat} {rs : List GRule} (h : w.ownsRow base 171 3 (.slice (some ⟨g, 0, none⟩) n cap) n (rs.flatMap GRule.cells)) (k : Nat) (r : GRule) (hk : k < rs.length) :
    (((w.setCell ⟨g, k * 3, none⟩ (.string r.letter)).setCell ⟨g, k * 3 + 1, none⟩ (.int .i64 r.left)).setCell ⟨g, k * 3 + 2, none⟩ (.int .i64 r.right)).ownsRow base 171 3 (.slice (some ⟨g, 0, none⟩) n cap) n ((rs.set k r).flatMap GRule.cells) ∧
    w.grownBy (((w.setCell ⟨g, k * 3, none⟩ (.string r.letter)).setCell ⟨g, k * 3 + 1, none⟩ (.int .i64 r.left)).setCell ⟨g, k * 3 + 2, none⟩ (.int .i64 r.right)) (some g) := by
  obtain ⟨h1, g1⟩ := World.ownsRow.stored h (k * 3) (.string r.letter)
  obtain ⟨h2, g2⟩ := World.ownsRow.stored h1 (k * 3 + 1) (.int .i64 r.left)
  obtain ⟨h3, g3⟩ := World.ownsRow.stored h2 (k * 3 + 2) (.int .i64 r.right)
  rw [set3 rs k r hk] at h3
  exact ⟨h3, grown_trans (grown_trans g1 g2) g3⟩

set_option maxRecDepth 100000 in
theorem toRuleS_any (v : Value) (xs : List GRule) (w : World) (h : Sl RuleE w w.heap.size v xs) (hl : xs.length ≤ 1048576) :
    Calls Try.prog 76 #[v] w fun e w' => ∃ v', e = .returned v' ∧ OwnRules w' w.heap.size v' xs ∧ Below w.heap.size w w' := by
  obtain ⟨A, c, rfl, hc, hm, hrow⟩ := h
  clear hm
  obtain ⟨i0, hi0, hz0, hz1, hz2⟩ := info_parts Try.infoR
  go_enter Try.func76, Try.ntmps76
  go_wp2_with (at_make; go_must (refine wpList_make_full _ rfl _ _ 26 rfl w.heap.size 171 i0 _ 3 Try.underlying26 hi0 hz0 hz1 _ _ _ _ xs.length rfl rfl rfl rfl (by rw [hz2]; omega) (by unfold maxLen; omega) (Nat.le_refl _) ?_); intro w1 hown1 hg1; rw [madeRules] at hown1)
  have hb1 : Below w.heap.size w w1 := (Below.refl _ _).grown hg1 (Nat.le_refl _) (by simp)
  have Hown := Lib.hid hown1
  clear hown1 hg1 hi0 hz0 hz1 hz2
  go_loopw [4] (fun i wr => ∃ (k : Nat), k ≤ xs.length ∧ i = .int .i64 k ∧ Below w.heap.size w wr ∧ wr.ownsRow w.heap.size 171 3 (.slice (some ⟨w.heap.size, 0, none⟩) xs.length xs.length) xs.length ((xs.take k ++ List.replicate (xs.length - k) ({ letter := ⟨#[]⟩, left := 0, right := 0 } : GRule)).flatMap GRule.cells)) (fun i _ => xs.length - (intOf i).toNat)
  case atStart => exact ⟨0, Nat.zero_le _, rfl, hb1, by simpa using Hown.out⟩
  case round =>
    obtain ⟨k, hk, rfl, hb, hown⟩ := hrel
    by_cases hlt : k < xs.length
    · obtain ⟨b, o, rfl, hbl, hcell⟩ := hrow.rule hlt
      obtain ⟨x, hx⟩ : ∃ x, xs[k]? = some x := ⟨_, List.getElem?_eq_getElem hlt⟩
      obtain ⟨g0, g1, g2⟩ := hcell k x hx
      have hc0 := (hb.cell (p := ⟨b, o + k * 3, none⟩) hbl).trans g0
      have hc1 := (hb.cell (p := ⟨b, o + k * 3 + 1, none⟩) hbl).trans g1
      have hc2 := (hb.cell (p := ⟨b, o + k * 3 + 2, none⟩) hbl).trans g2
      have Hown := Lib.hid hown
      have Hx := Lib.hid hx
      clear hcell hown hx g0 g1 g2
      go_wp2_with fail
      refine (toRule_any _ _ _ _).mono ?_
      rintro e w2 ⟨rfl, hb2⟩
      have hown2 := ownsRow_below Hown.out hb2
      have hlen : (xs.take k ++ List.replicate (xs.length - k) ({ letter := ⟨#[]⟩, left := 0, right := 0 } : GRule)).length = xs.length := by simp; omega
      obtain ⟨u0, hu0⟩ : ∃ u, w2.cell? ⟨w.heap.size, k * 3, none⟩ = some u :=
        ⟨_, (hown2.cellAt (k * 3) (by omega)).trans (List.getElem?_eq_getElem (by rw [hown2.1]; omega))⟩
      obtain ⟨u1, hu1⟩ : ∃ u, w2.cell? ⟨w.heap.size, k * 3 + 1, none⟩ = some u :=
        ⟨_, (hown2.cellAt (k * 3 + 1) (by omega)).trans (List.getElem?_eq_getElem (by rw [hown2.1]; omega))⟩
      obtain ⟨u2, hu2⟩ : ∃ u, w2.cell? ⟨w.heap.size, k * 3 + 2, none⟩ = some u :=
        ⟨_, (hown2.cellAt (k * 3 + 2) (by omega)).trans (List.getElem?_eq_getElem (by rw [hown2.1]; omega))⟩
      have hf0 := hown2.frozenAt (k * 3)
      have hf1 := hown2.frozenAt (k * 3 + 1)
      have hf2 := hown2.frozenAt (k * 3 + 2)
      have hst := OwnRules.stored3 hown2 k x (by omega)
      rw [fill_step xs _ k _ Hx.out] at hst
      have Hst := Lib.hid hst
      have hb3 := hb.trans (hb2.mono hb.size)
      clear hown2 hst hlen hb2
      go_wp2
      go_roundw
      case rel => exact ⟨k + 1, by omega, by go_num, ((hb3.setCell (Nat.le_refl _) _).setCell (Nat.le_refl _) _).setCell (Nat.le_refl _) _, Hst.out.1⟩
      case measure => simp [intOf]; omega
    · have hkn : k = xs.length := by omega
      subst hkn
      have Hown2 := Lib.hid hown
      clear hown
      go_wp2
      go_ret
      exact ⟨_, rfl, by have := Hown2.out; simpa [OwnRules] using this, hb⟩

theorem toGrammar_any (v : Value) (xs : List GRule) (w : World) (h : Sl RuleE w w.heap.size v xs) (hl : xs.length ≤ 1048576) :
    Calls Try.prog 15 #[.agg #[v]] w fun e w' => ∃ v', e = .returned (.agg #[v']) ∧ OwnRules w' w.heap.size v' xs ∧ Below w.heap.size w w' := by
  have h1 := fun o o' o'' => (h.below ((((Below.refl w.heap.size w).alloc (Nat.le_refl _) o).alloc (by simp) o').alloc (by simp; omega) o'')).le (B' := (((w.alloc o).alloc o').alloc o'').heap.size) (by simp; omega)
  have H1 := Lib.hid h1
  clear h1
  obtain ⟨A, c, rfl, _⟩ := h
  go_enter Try.func15, Try.ntmps15
  go_wp2_with fail
  refine (toRuleS_any _ _ _ (H1.out _ _ _) hl).mono ?_
  rintro e w1 ⟨v1, rfl, hown, hb1⟩
  obtain ⟨A1, c1, rfl, _⟩ := own_nil hown
  obtain ⟨hc1, hf1⟩ := bcell hb1
  have hz1 : w.heap.size + 3 ≤ w1.heap.size := by have := hb1.size; simp at this; omega
  have Hown := Lib.hid hown
  have Hb1 := Lib.hid hb1
  clear hown hb1
  go_wp2
  refine bodyPost_ret (v := .agg #[.slice A1 xs.length c1]) (by simp [results, Try.results15, go_sem, hc1]) rfl ⟨_, rfl, ?_, ?_⟩
  · have h3 := Hown.out
    have h4 : w1.ownsRow (w.heap.size + 3) 171 3 (.slice A1 xs.length c1) xs.length (xs.flatMap GRule.cells) := ownsRow_more h3 (by simp)
    exact ownsRow_more (ownsRow_setCell_below (ownsRow_setCell_below h4 (by show w.heap.size + 1 + 1 < w.heap.size + 3; omega) _) (by show w.heap.size + 1 < w.heap.size + 3; omega) _) (by omega)
  · exact (((((Below.refl _ _).alloc (Nat.le_refl _) _).alloc (by simp) _).alloc (by simp; omega) _).trans (Hb1.out.mono (by simp; omega))).setCell (by show w.heap.size ≤ w.heap.size + 1 + 1; omega) _ |>.setCell (by show w.heap.size ≤ w.heap.size + 1; omega) _

theorem eqGrammar_any (v v' : Value) (xs : List GRule) (w : World) (h : Sl RuleE w w.heap.size v xs) (h' : Sl RuleE w w.heap.size v' xs) :
    Calls Try.prog 17 #[.agg #[v], .agg #[v']] w fun e w' => e = .returned (.bool true) ∧ Below w.heap.size w w' := by
  have h1 := fun o o' => (h.below (((Below.refl w.heap.size w).alloc (Nat.le_refl _) o).alloc (by simp) o')).le (B' := ((w.alloc o).alloc o').heap.size) (by simp; omega)
  have h2 := fun o o' => (h'.below (((Below.refl w.heap.size w).alloc (Nat.le_refl _) o).alloc (by simp) o')).le (B' := ((w.alloc o).alloc o').heap.size) (by simp; omega)
  obtain ⟨A, c, rfl, hc, hm, hrow⟩ := h
  obtain ⟨A', c', rfl, hc', hm', hrow'⟩ := h'
  have H1 := Lib.hid h1
  have H2 := Lib.hid h2
  clear h1 h2 hm hm' hrow hrow'
  go_enter Try.func17, Try.ntmps17
  go_wp2_with (first | (go_at_call 82; go_must (refine (eqRuleS_any _ _ _ _ (H1.out _ _) (H2.out _ _)).mono ?_); rintro e w2 ⟨rfl, hb2⟩))
  go_ret
  exact ⟨rfl, (((Below.refl _ _).alloc (Nat.le_refl _) _).alloc (by simp) _).trans (hb2.mono (by simp; omega))⟩
end Go.Proofs.Ytoemoifeiigkoaa
