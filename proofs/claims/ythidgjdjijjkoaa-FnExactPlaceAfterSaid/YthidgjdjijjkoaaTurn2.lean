import Derived.Test.YthidgjdjijjkoaaTurn
namespace Go.Proofs.Ythidgjdjijjkoaa
open Go.RowKit

set_option maxRecDepth 100000 in
set_option maxHeartbeats 1000000 in
theorem specTurn_any (v : Value) (xs : List GRule) (w : World) (h : Sl RuleE w w.heap.size v xs) (hsm : SmallL xs) (hn : xs.length ≤ 1099511627776) :
    Calls Try.prog 27 #[.agg #[v]] w (TurnPost xs w) := by
  have h1 := fun o o' => (h.below (((Below.refl w.heap.size w).alloc (Nat.le_refl _) o).alloc (by simp) o')).le (B' := ((w.alloc o).alloc o').heap.size) (by simp; omega)
  have H1 := Lib.hid h1
  clear h1
  obtain ⟨A, c, rfl, _⟩ := h
  go_enter Try.func27, Try.ntmps27
  go_wp2_with fail
  refine (l02Ok_any _ _ _ _ _ (by simp [go_sem]) (by first | omega | (simp; done) | (simp; omega)) (H1.out _ _) hsm).mono ?_
  rintro e w1 ⟨rfl, hb1⟩
  obtain ⟨hc1, hf1⟩ := bcell hb1
  have hz1 : w.heap.size + 2 ≤ w1.heap.size := by have := hb1.size; simp at this; omega
  have hsl := (H1.out (Obj.cells #[Value.slice A xs.length c] 56) (Obj.cells #[Value.slice none 0 0] 56)).up hb1
  have Hsl := Lib.hid hsl
  have Hb1 := Lib.hid (((Below.refl w.heap.size w).alloc (Nat.le_refl _) (Obj.cells #[Value.slice A xs.length c] 56)).alloc (by simp) (Obj.cells #[Value.slice none 0 0] 56) |>.trans (hb1.mono (by simp; omega)))
  clear hb1 hsl
  have hz3 : w.heap.size + 1 < w1.heap.size := by omega
  have hz4 : w.heap.size < w1.heap.size := by omega
  have hc2 : w1.cell? ⟨w.heap.size + 1, 0, none⟩ = some (.slice none 0 0) := by rw [hc1 _ _ (by simp)]; simp [go_sem]
  have hf2 : w1.frozen? ⟨w.heap.size + 1, 0, none⟩ = false := by rw [hf1 _ _ (by simp)]; simp [go_sem]
  have hc3 : w1.cell? ⟨w.heap.size, 0, none⟩ = some (.slice A xs.length c) := by rw [hc1 _ _ (by simp; omega)]; simp [go_sem]
  clear hc1 hf1
  by_cases hok : gramOk xs = true
  · have hok2 : (!gramOk xs) = false := by simp [hok]
    have Hok := Lib.hid hok
    clear hok
    go_wp2_with fail
    refine (l02Own_any _ _ _ _ _ hc3 (by omega) Hsl.out hn).mono ?_
    rintro e w2 ⟨v2, rfl, hown, hb2⟩
    obtain ⟨hd1, hg1⟩ := bcell hb2
    have hz5 : w.heap.size + 1 < w2.heap.size := by have := hb2.size; omega
    have hc4 : w2.cell? ⟨w.heap.size + 1, 0, none⟩ = some (.slice none 0 0) := by rw [hd1 _ _ hz3, hc2]
    have hf4 : w2.frozen? ⟨w.heap.size + 1, 0, none⟩ = false := by rw [hg1 _ _ hz3, hf2]
    have Hb2 := Lib.hid (Hb1.out.trans (hb2.mono (by omega)))
    have hw12 : w1.heap.size ≤ w2.heap.size := hb2.size
    clear hd1 hg1 hb2 hc2 hf2 hc3
    rcases Nat.eq_zero_or_pos xs.length with h0 | h0
    · have hx : xs = [] := List.eq_nil_of_length_eq_zero h0
      subst hx
      obtain ⟨A1, c1, rfl, _⟩ := own_nil hown
      have Hown := Lib.hid hown
      clear hown h0
      go_wp2_with fail
      go_loopw [5, 6] (fun i _ wr => i = .int .i64 0 ∧ wr = w2.alloc (Obj.cells #[Value.slice A1 0 c1] 56)) (fun _ _ _ => 0)
      case atStart => exact ⟨rfl, rfl⟩
      case round =>
        obtain ⟨rfl, rfl⟩ := hrel
        go_wp2
        refine bodyPost_ret (v := .tuple #[.agg #[.slice A1 0 c1], .int .i64 0]) (by simp [results, Try.results27, go_sem, hc4, hz5]) rfl ⟨?_, _, ?_, by rw [turnCode, if_pos Hok.out]⟩
        · exact (Hb2.out.setCell (by show w.heap.size ≤ w.heap.size + 1; omega) _).alloc (by simp [World.setCell]; omega) _
        · rw [turnOut, if_pos Hok.out]
          have h4 : w2.ownsRow w1.heap.size 112 3 (.slice A1 0 c1) 0 [] := Hown.out
          exact ownsRow_more (World.ownsRow.alloc (ownsRow_setCell_below h4 (a := ⟨w.heap.size + 1, 0, none⟩) (by show w.heap.size + 1 < w1.heap.size; omega) _) _) (by omega)
    · obtain ⟨g, cap, rfl, hgb, hgl, hcap, _⟩ := own_form hown h0
      have Hown := Lib.hid hown
      clear hown hcap
      go_wp2_with fail
      go_loopw [5, 6] (fun i _ wr => ∃ n : Nat, n ≤ xs.length ∧ i = .int .i64 n ∧ (w2.alloc (Obj.cells #[Value.slice (some ⟨g, 0, none⟩) xs.length cap] 56)).grownBy wr (some g) ∧
        wr.ownsRow w1.heap.size 112 3 (.slice (some ⟨g, 0, none⟩) xs.length cap) xs.length (((xs.take n).map turnR ++ xs.drop n).flatMap GRule.cells)) (fun i _ _ => xs.length - (intOf i).toNat)
      case atStart => exact ⟨0, Nat.zero_le _, rfl, World.grownBy.refl _ _, by have := Hown.out; simp only [List.take_zero, List.map_nil, List.nil_append, List.drop_zero]; exact World.ownsRow.alloc this _⟩
      case round =>
        obtain ⟨n, hnl, rfl, hgr, hown⟩ := hrel
        have hbx : wr.heap[w2.heap.size]? = some (Obj.cells #[Value.slice (some ⟨g, 0, none⟩) xs.length cap] 56) := by
          rw [hgr.block w2.heap.size (by simp) (by simp; omega)]; exact heap_alloc_new _ _
        have hcb : wr.cell? ⟨w2.heap.size, 0, none⟩ = some (.slice (some ⟨g, 0, none⟩) xs.length cap) := by simp [World.cell?, hbx]
        have hszr : w2.heap.size < wr.heap.size := by have := hgr.size; simp at this; omega
        have hne : g ≠ w2.heap.size := by omega
        clear hbx
        by_cases hlt : n < xs.length
        · obtain ⟨r, hr⟩ : ∃ r, xs[n]? = some r := ⟨_, List.getElem?_eq_getElem hlt⟩
          obtain ⟨c0, c1, c2⟩ := cells3 _ _ _ (turn_at hr)
          have hl3 : n * 3 + 2 < xs.length * 3 := by omega
          have hd1 : wr.cell? ⟨g, n * 3 + 1, none⟩ = some (.int .i64 r.left) := (hown.cellAt (n * 3 + 1) (by omega)).trans c1
          have hd2 : wr.cell? ⟨g, n * 3 + 2, none⟩ = some (.int .i64 r.right) := (hown.cellAt (n * 3 + 2) (by omega)).trans c2
          have hfa := hown.frozenAt (n * 3 + 1)
          have hfb := hown.frozenAt (n * 3 + 2)
          have hi : (n : Int) < (xs.length : Int) := by omega
          have hg2 : g < wr.heap.size := by omega
          have Hr := Lib.hid hr
          have Hown := Lib.hid hown
          have Hgr := Lib.hid hgr
          clear hown hgr hr c0 c1 c2 hc4 hf4
          go_wp2_with fail
          go_region
          go_wp2
          go_roundw
          case rel =>
            refine ⟨n + 1, by omega, by go_num, ?_, ?_⟩
            · exact grown_drew (grown_trans Hgr.out (OwnRules.stored2 Hown.out n r r.right r.left (turn_at Hr.out)).2)
            · rw [← turn_step Hr.out]
              exact (OwnRules.stored2 Hown.out n r r.right r.left (turn_at Hr.out)).1
          case measure => simp [intOf]; omega
        · have hkn : n = xs.length := by omega
          subst hkn
          have hcr : wr.cell? ⟨w.heap.size + 1, 0, none⟩ = some (.slice none 0 0) := by
            rw [World.cell?_of_block (a := ⟨w.heap.size + 1, 0, none⟩) (hgr.block (w.heap.size + 1) (by simp; omega) (by simp; omega))]; simp [go_sem, hc4, hz5]
          have hfr : wr.frozen? ⟨w.heap.size + 1, 0, none⟩ = false := by
            rw [World.frozen?_of_block (a := ⟨w.heap.size + 1, 0, none⟩) (hgr.block (w.heap.size + 1) (by simp; omega) (by simp; omega))]; simp [go_sem, hf4, hz5]
          have Hgr := Lib.hid hgr
          have Hown := Lib.hid hown
          clear hown hgr hc4 hf4
          go_wp2
          refine bodyPost_ret (v := .tuple #[.agg #[.slice (some ⟨g, 0, none⟩) xs.length cap], .int .i64 0]) (by simp [results, Try.results27, go_sem, hcr]) rfl ⟨?_, _, ?_, by rw [turnCode, if_pos Hok.out]⟩
          · refine Below.setCell ?_ (by show w.heap.size ≤ w.heap.size + 1; omega) _
            exact (Hb2.out.alloc (by omega) _).grown Hgr.out (by simp; omega) (fun k hk => by injection hk with hk; omega)
          · rw [turnOut, if_pos Hok.out]
            have h4 := Hown.out
            rw [List.take_length, List.drop_length, List.append_nil] at h4
            have h5 := ownsRow_setCell_below h4 (a := ⟨w.heap.size + 1, 0, none⟩) (by show w.heap.size + 1 < w1.heap.size; omega) (.slice (some ⟨g, 0, none⟩) xs.length cap)
            unfold OwnRules
            rw [List.length_map]
            exact ownsRow_more h5 (by omega)
  · have hok2 : (!gramOk xs) = true := by simp [hok]
    have Hok := Lib.hid hok
    clear hok
    go_wp2
    refine bodyPost_ret (v := .tuple #[.agg #[.slice none 0 0], .int .i64 1]) (by simp [results, Try.results27, go_sem, hc2]) rfl ⟨?_, _, ?_, by rw [turnCode, if_neg Hok.out]⟩
    · exact Hb1.out.setCell (by show w.heap.size ≤ w.heap.size + 1; omega) _
    · rw [turnOut, if_neg Hok.out]; exact World.ownsRow_nil _ _ _ _
end Go.Proofs.Ythidgjdjijjkoaa
