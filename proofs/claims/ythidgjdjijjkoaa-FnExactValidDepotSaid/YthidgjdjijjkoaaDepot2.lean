import Derived.Test.YthidgjdjijjkoaaDepot
namespace Go.Proofs.Ythidgjdjijjkoaa
open Go.RowKit

set_option maxRecDepth 100000 in
theorem IndexGrams_any (v : Value) (xs : List (List GRule)) (F : FuncId) (cap : Array Value) (p : List GRule → Bool) (w : World) (h : Sl (SliceE RuleE) w w.heap.size v xs)
    (eg : ∀ args w, (callFunc F args).run Try.prog w = .ok (.enter F args) w) (hf : ∀ (W : World) u x, Below w.heap.size w W → x ∈ xs → Sl RuleE W W.heap.size u x → Calls Try.prog F (#[.agg #[u]] ++ cap) W fun e w' => e = .returned (.bool (p x)) ∧ Below W.heap.size W w') :
    Calls Try.prog 113 #[v, .func (.func F) #[] cap] w fun e w' => e = .returned (.int .i64 (idxOf p xs)) ∧ Below w.heap.size w w' := by
  obtain ⟨A, c, rfl, hc, hm, hrow⟩ := h
  unfold maxLen at hm
  have Hf := Lib.hid hf
  clear hf
  go_enter Try.func113, Try.ntmps113
  go_wp2_with fail
  go_loopw [8] (fun i wr => ∃ k : Nat, k ≤ xs.length ∧ i = .int .i64 k ∧ Below w.heap.size w wr ∧ ∀ (j : Nat) y, j < k → xs[j]? = some y → p y = false) (fun i _ => xs.length - (intOf i).toNat)
  case atStart => exact ⟨0, Nat.zero_le _, rfl, Below.refl _ _, fun j y hj => absurd hj (by omega)⟩
  case round =>
    obtain ⟨k, hk, rfl, hb, hno⟩ := hrel
    have Hno := Lib.hid hno
    clear hno
    by_cases hlt : k < xs.length
    · obtain ⟨b, o, rfl, hbl, hcell⟩ := hrow.sl hlt
      obtain ⟨x, hx⟩ : ∃ x, xs[k]? = some x := ⟨_, List.getElem?_eq_getElem hlt⟩
      obtain ⟨u, hu, hsl⟩ := hcell k x hx
      have hc0 : wr.cell? ⟨b, o + k, none⟩ = some u := (hb.cell hbl).trans hu
      have Hx := Lib.hid hx
      have Hsl := Lib.hid ((hsl.below hb).le (B' := wr.heap.size) hb.size)
      obtain ⟨Au, cu, rfl, _⟩ := hsl
      clear hcell hu hx
      go_wp2_with fail
      refine (Hf.out _ _ x hb (List.mem_of_getElem? Hx.out) Hsl.out).mono ?_
      rintro e w2 ⟨rfl, hb2⟩
      by_cases hp : p x = true
      · have Hp := Lib.hid hp
        go_wp2
        go_ret
        exact ⟨ret_int (by rw [idxOf_some Hno.out Hx.out Hp.out]), hb.trans (hb2.mono hb.size)⟩
      · have hp2 : p x = false := by simpa using hp
        have Hp := Lib.hid hp2
        clear hp
        go_wp2
        go_roundw
        case rel =>
          refine ⟨k + 1, by omega, by go_num, hb.trans (hb2.mono hb.size), fun j y hj hy => ?_⟩
          by_cases e : j = k
          · subst e
            have := Hx.out
            rw [hy] at this
            injection this with this
            rw [this]; exact Hp.out
          · exact Hno.out j y (by omega) hy
        case measure => simp [intOf]; omega
    · go_wp2
      go_ret
      exact ⟨ret_int (by
        rw [idxOf_none]
        intro x hx
        obtain ⟨j, hj, rfl⟩ := List.getElem_of_mem hx
        exact Hno.out j _ (by omega) (List.getElem?_eq_getElem hj)), hb⟩

theorem ContainsGrams_any (v : Value) (xs : List (List GRule)) (F : FuncId) (cap : Array Value) (p : List GRule → Bool) (w : World) (h : Sl (SliceE RuleE) w w.heap.size v xs)
    (eg : ∀ args w, (callFunc F args).run Try.prog w = .ok (.enter F args) w) (hf : ∀ (W : World) u x, Below w.heap.size w W → x ∈ xs → Sl RuleE W W.heap.size u x → Calls Try.prog F (#[.agg #[u]] ++ cap) W fun e w' => e = .returned (.bool (p x)) ∧ Below W.heap.size W w') :
    Calls Try.prog 68 #[v, .func (.func F) #[] cap] w fun e w' => e = .returned (.bool (xs.any p)) ∧ Below w.heap.size w w' := by
  have H := Lib.hid (IndexGrams_any v xs F cap p w h eg hf)
  clear hf eg
  obtain ⟨A, c, rfl, _⟩ := h
  go_enter Try.func68, Try.ntmps68
  go_wp2_with fail
  refine H.out.mono ?_
  rintro e w2 ⟨rfl, hb2⟩
  go_wp2
  go_ret
  exact ⟨ret_bool (idxOf_any p xs), hb2⟩


def depotOk (d : GDepot) : Bool := inR d.servers 1 4 && inR d.names 1 4 && decide (d.words.length ≤ 8) && !d.words.any fun g => !gramOk g

set_option maxRecDepth 100000 in
theorem toDepot_any (v : Value) (a : GDepot) (w : World) (h : DepotV w w.heap.size v a) (hl : a.words.length ≤ 1048576) (hll : ∀ x ∈ a.words, x.length ≤ 1048576) :
    Calls Try.prog 23 #[v] w fun e w' => ∃ v', e = .returned v' ∧ DepotV w' w'.heap.size v' a ∧ Below w.heap.size w w' := by
  obtain ⟨servers, names, words⟩ := a
  obtain ⟨vW, rfl, hW⟩ := h
  simp only at hW hl hll ⊢
  have hB := fun o o' o'' => (((Below.refl w.heap.size w).alloc (Nat.le_refl _) o).alloc (by simp) o').alloc (by simp; omega) o''
  have HB := Lib.hid hB
  have HW := Lib.hid hW
  have Hll := Lib.hid hll
  clear hB hll
  obtain ⟨AW, cW, rfl, _⟩ := hW
  go_enter Try.func23, Try.ntmps23
  go_wp2_with fail
  refine (toGrammarS_any _ words _ ((HW.out.below (HB.out _ _ _)).le (by first | omega | (simp; done) | (simp; omega))) hl Hll.out).mono ?_
  rintro e w1 ⟨v1, rfl, hs1, hb1⟩
  have Hs1 := Lib.hid hs1
  obtain ⟨A1, c1, rfl, _⟩ := hs1
  obtain ⟨hc1, hf1⟩ := bcell hb1
  have hz1 : w.heap.size + 3 ≤ w1.heap.size := by have := hb1.size; simp at this; omega
  have hx : w.heap.size + 1 + 1 < w1.heap.size := by omega
  have hy : w.heap.size + 1 < w1.heap.size := by omega
  have e0 : w1.cell? ⟨w.heap.size + 1 + 1, 0, none⟩ = some (.int .i64 servers) := by rw [hc1 _ _ (by simp)]; simp [go_sem]
  have e1 : w1.cell? ⟨w.heap.size + 1 + 1, 1, none⟩ = some (.int .i64 names) := by rw [hc1 _ _ (by simp)]; simp [go_sem]
  have e2 : w1.cell? ⟨w.heap.size + 1 + 1, 2, none⟩ = some (.slice none 0 0) := by rw [hc1 _ _ (by simp)]; simp [go_sem]
  have r0 : w1.cell? ⟨w.heap.size + 1, 0, none⟩ = some (.int .i64 0) := by rw [hc1 _ _ (by simp)]; simp [go_sem]
  have r1 : w1.cell? ⟨w.heap.size + 1, 1, none⟩ = some (.int .i64 0) := by rw [hc1 _ _ (by simp)]; simp [go_sem]
  have r2 : w1.cell? ⟨w.heap.size + 1, 2, none⟩ = some (.slice none 0 0) := by rw [hc1 _ _ (by simp)]; simp [go_sem]
  have fx : ∀ o, w1.frozen? ⟨w.heap.size + 1 + 1, o, none⟩ = false := fun o => by rw [hf1 _ _ (by simp)]; simp [go_sem]
  have fy : ∀ o, w1.frozen? ⟨w.heap.size + 1, o, none⟩ = false := fun o => by rw [hf1 _ _ (by simp)]; simp [go_sem]
  have Hb1 := Lib.hid ((HB.out _ _ _).trans (hb1.mono (by simp; omega)))
  clear hb1 hc1 hf1
  go_wp2
  refine bodyPost_ret (v := .agg #[.int .i64 servers, .int .i64 names, .slice A1 words.length c1]) (by simp [results, Try.results23, go_sem, r0, r1, r2]) rfl ⟨_, rfl, ⟨_, rfl, ?_⟩, ?_⟩
  · have h2 := Hs1.out.more (S' := fun b => w.heap.size + 3 ≤ b ∧ b < w1.heap.size) fun b h => ⟨by have := h.1; simp at this; omega, h.2⟩
    exact (((((h2.keep (Keep.of_set2 (by omega) _)).keep (Keep.of_set2 (by omega) _)).keep (Keep.of_set2 (by omega) _)).keep (Keep.of_set2 (by omega) _))).more fun b h => by simp [World.setCell]; exact h.2
  · exact (((Hb1.out.setCell (by show w.heap.size ≤ w.heap.size + 1 + 1; omega) _).setCell (by show w.heap.size ≤ w.heap.size + 1; omega) _).setCell (by show w.heap.size ≤ w.heap.size + 1; omega) _).setCell (by show w.heap.size ≤ w.heap.size + 1; omega) _

theorem keepF {N : Nat} {wr W W2 : World} {b o b' o' : Nat} {v u : Value} (h : Below N wr W ∧ W.cell? ⟨b, o, none⟩ = some v ∧ W.cell? ⟨b', o', none⟩ = some u) (h2 : Below W.heap.size W W2) (hN : N ≤ wr.heap.size) (hp : b < wr.heap.size) (hq : b' < wr.heap.size) :
    Below N wr W2 ∧ W2.cell? ⟨b, o, none⟩ = some v ∧ W2.cell? ⟨b', o', none⟩ = some u :=
  ⟨h.1.trans (h2.mono (Nat.le_trans hN h.1.size)), (h2.cell (p := ⟨b, o, none⟩) (Nat.lt_of_lt_of_le hp h.1.size)).trans h.2.1, (h2.cell (p := ⟨b', o', none⟩) (Nat.lt_of_lt_of_le hq h.1.size)).trans h.2.2⟩
set_option maxRecDepth 100000 in
theorem eqGrammarS_any (v v' : Value) (xs : List (List GRule)) (w : World) (h : Sl (SliceE RuleE) w w.heap.size v xs) (h' : Sl (SliceE RuleE) w w.heap.size v' xs) :
    Calls Try.prog 71 #[v, v'] w fun e w' => e = .returned (.bool true) ∧ Below w.heap.size w w' := by
  obtain ⟨A, c, rfl, hc, hm, hrow⟩ := h
  obtain ⟨A', c', rfl, hc', hm', hrow'⟩ := h'
  unfold maxLen at hm
  have hn : xs.length ≤ 9223372036854775807 := by omega
  clear hm hm'
  go_enter Try.func71, Try.ntmps71
  go_wp2_with fail
  go_loopw [5] (fun i wr => ∃ (k : Nat), k ≤ xs.length ∧ i = .int .i64 k ∧ Below w.heap.size w wr) (fun i _ => xs.length - (intOf i).toNat)
  case atStart => exact ⟨0, Nat.zero_le _, rfl, Below.refl _ _⟩
  case round =>
    obtain ⟨k, hk, rfl, hb⟩ := hrel
    by_cases hlt : k < xs.length
    · obtain ⟨b, o, rfl, hbl, hcell⟩ := hrow.sl hlt
      obtain ⟨b', o', rfl, hbl', hcell'⟩ := hrow'.sl hlt
      obtain ⟨x, hx⟩ : ∃ x, xs[k]? = some x := ⟨_, List.getElem?_eq_getElem hlt⟩
      obtain ⟨u, hu, hsl⟩ := hcell k x hx
      obtain ⟨u', hu', hsl'⟩ := hcell' k x hx
      have hc0 := (hb.cell (p := ⟨b, o + k, none⟩) hbl).trans hu
      have hc0' := (hb.cell (p := ⟨b', o' + k, none⟩) hbl').trans hu'
      have Hsl := Lib.hid ((hsl.below hb).le (B' := wr.heap.size) hb.size)
      have Hsl' := Lib.hid ((hsl'.below hb).le (B' := wr.heap.size) hb.size)
      obtain ⟨Au, cu, rfl, _⟩ := hsl
      obtain ⟨Au', cu', rfl, _⟩ := hsl'
      have hi : (k : Int) < (xs.length : Int) := by omega
      have hsz : w.heap.size ≤ wr.heap.size := hb.size
      have hb1 : b < wr.heap.size := by omega
      have hb1' : b' < wr.heap.size := by omega
      clear hcell hcell' hx hu hu'
      go_wp2_with fail
      go_region_held3 (fun w' => Below wr.heap.size wr w' ∧ w'.cell? ⟨b, o + k, none⟩ = some (.slice Au x.length cu) ∧ w'.cell? ⟨b', o' + k, none⟩ = some (.slice Au' x.length cu')) (first | exact ⟨(Below.refl _ _).drew, hc0, hc0'⟩ | exact keepF (by assumption) hb2 (Nat.le_refl _) hb1 hb1')
        (first | (go_at_call 30; refine (eqGrammar_any _ _ x _ (Hsl.out.up (Below.drew (Below.refl _ _))) (Hsl'.out.up (Below.drew (Below.refl _ _)))).mono ?_; rintro e w2 ⟨rfl, hb2⟩))
      have B2 := Lib.hid (hb.trans (((Below.drew (Below.refl wr.heap.size wr)).trans hb2).mono hsz))
      go_wp2
      go_roundw
      case rel => exact ⟨k + 1, by omega, by go_num, B2.out⟩
      case measure => simp [intOf]; omega
    · go_wp2
      go_ret
      exact ⟨rfl, hb⟩

theorem eqDepot_any (v v' : Value) (a : GDepot) (w : World) (h : DepotV w w.heap.size v a) (h' : DepotV w w.heap.size v' a) :
    Calls Try.prog 25 #[v, v'] w fun e w' => e = .returned (.bool true) ∧ Below w.heap.size w w' := by
  obtain ⟨vF, rfl, hF⟩ := h
  obtain ⟨vF', rfl, hF'⟩ := h'
  have hB := fun o o' => ((Below.refl w.heap.size w).alloc (Nat.le_refl _) o).alloc (by simp) o'
  have HB := Lib.hid hB
  have HF := Lib.hid hF
  have HF' := Lib.hid hF'
  clear hB
  obtain ⟨AF, cF, rfl, _⟩ := hF
  obtain ⟨AF', cF', rfl, _⟩ := hF'
  have q1 : (a.servers != a.servers) = false := by simp
  have q2 : (a.names != a.names) = false := by simp
  go_enter Try.func25, Try.ntmps25
  go_wp2_with fail
  refine (eqGrammarS_any _ _ a.words _ ((HF.out.below (HB.out _ _)).le (by first | omega | (simp; done) | (simp; omega))) ((HF'.out.below (HB.out _ _)).le (by first | omega | (simp; done) | (simp; omega)))).mono ?_
  rintro e w1 ⟨rfl, hb1⟩
  go_wp2_with fail
  go_ret
  exact ⟨rfl, (HB.out _ _).trans (hb1.mono (by simp; omega))⟩
end Go.Proofs.Ythidgjdjijjkoaa
