import Derived.Test.YthidgjdjijjkoaaAuto4
namespace Go.Proofs.Ythidgjdjijjkoaa
open Go.RowKit

def szA (a : GAuto) (left : Int) : Int := if szN a.finals.length left < 0 then -1 else if szII a.next (szN a.finals.length left) < 0 then -1 else szII a.next (szN a.finals.length left)
theorem szII_le (xs : List (List Int)) (left : Int) (h0 : 0 ≤ left) : szII xs left ≤ left := by
  unfold szII
  split
  · omega
  · have := szNN_le xs (szN xs.length left) (by omega)
    have h3 : szN xs.length left ≤ left := by unfold szN; split <;> omega
    omega
theorem szNN_all (xs : List (List Int)) : ∀ left : Int, 0 ≤ szNN xs left → left ≤ 1048576 → ∀ x ∈ xs, x.length ≤ 1048576 := by
  induction xs with
  | nil => intro l _ _ x hx; simp at hx
  | cons y ys ih =>
    intro l h hl x hx
    unfold szNN at h
    split at h
    · omega
    · rename_i hn
      have h3 : szN y.length l ≤ l := by unfold szN at *; split at hn <;> split <;> omega
      have h4 : (y.length : Int) ≤ l := by unfold szN at hn; split at hn <;> omega
      rcases List.mem_cons.1 hx with rfl | hx
      · omega
      · exact ih _ h (by omega) x hx
theorem szA_le {a : GAuto} (h : 0 ≤ szA a 1048576) : a.finals.length ≤ 1048576 ∧ a.next.length ≤ 1048576 ∧ ∀ x ∈ a.next, x.length ≤ 1048576 := by
  unfold szA at h
  split at h
  · omega
  · rename_i h1
    split at h
    · omega
    · rename_i h2
      have h3 : szN a.finals.length 1048576 ≤ 1048576 := by unfold szN; split <;> omega
      have h4 : (a.finals.length : Int) ≤ 1048576 := by unfold szN at h1; split at h1 <;> omega
      unfold szII at h
      split at h
      · omega
      · rename_i h5
        have h6 : szN a.next.length (szN a.finals.length 1048576) ≤ 1048576 := by unfold szN at *; (repeat' split) <;> omega
        have h7 : (a.next.length : Int) ≤ 1048576 := by unfold szN at h5 h6 h3; (repeat' split at h5) <;> omega
        exact ⟨by omega, by omega, szNN_all _ _ h h6⟩

theorem szAuto_any (v : Value) (a : GAuto) (left : Int) (w : World) (h : AutoV w w.heap.size v a) (hl : 0 ≤ left ∧ left ≤ 1048576) :
    Calls Try.prog 16 #[v, .int .i64 left] w fun e w' => e = .returned (.int .i64 (szA a left)) ∧ Below w.heap.size w w' := by
  obtain ⟨states, start, finals, next⟩ := a
  obtain ⟨vF, vN, rfl, hF, hN⟩ := h
  simp only at hF hN ⊢
  have hF' := fun o => (hF.below ((Below.refl w.heap.size w).alloc (Nat.le_refl _) o)).le (B' := (w.alloc o).heap.size) (by simp)
  have hN' := fun o => (hN.below ((Below.refl w.heap.size w).alloc (Nat.le_refl _) o)).le (B' := (w.alloc o).heap.size) (by simp)
  have HF := Lib.hid hF'
  have HN := Lib.hid hN'
  clear hF' hN'
  obtain ⟨AF, cF, rfl, _⟩ := hF
  obtain ⟨AN, cN, rfl, _⟩ := hN
  go_enter Try.func16, Try.ntmps16
  go_wp2_with fail
  refine (szInt64S_any _ _ _ _ (HF.out _) hl).mono ?_
  rintro e w1 ⟨rfl, rfl⟩
  have h3 : szN finals.length left ≤ left := by unfold szN; split <;> omega
  by_cases c1 : szN finals.length left < 0
  · have e1 : szA { states := states, start := start, finals := finals, next := next } left = -1 := by simp [szA, c1]
    have E1 := Lib.hid e1
    clear e1
    go_wp2_with fail
    go_ret
    exact ⟨ret_int E1.out.symm, (by repeat (first | exact Below.refl _ _ | (refine Below.alloc ?_ (by first | omega | (simp; done) | (simp; omega)) _) | refine below_drewN ?_ _ | refine Below.drew ?_))⟩
  · have e1 : szA { states := states, start := start, finals := finals, next := next } left = if szII next (szN finals.length left) < 0 then -1 else szII next (szN finals.length left) := by simp [szA, c1]
    have E1 := Lib.hid e1
    clear e1
    have hp : 0 ≤ szN finals.length left ∧ szN finals.length left ≤ 1048576 := by omega
    have HP := Lib.hid hp
    clear hp
    go_wp2_with fail
    refine (szInt64SS_any _ _ _ _ (HN.out _) HP.out).mono ?_
    rintro e w1 ⟨rfl, rfl⟩
    by_cases c2 : szII next (szN finals.length left) < 0
    · rw [if_pos c2] at E1
      go_wp2_with fail
      go_ret
      exact ⟨ret_int E1.out.symm, (by repeat (first | exact Below.refl _ _ | (refine Below.alloc ?_ (by first | omega | (simp; done) | (simp; omega)) _) | refine below_drewN ?_ _ | refine Below.drew ?_))⟩
    · rw [if_neg c2] at E1
      go_wp2_with fail
      go_ret
      exact ⟨ret_int E1.out.symm, (by repeat (first | exact Below.refl _ _ | (refine Below.alloc ?_ (by first | omega | (simp; done) | (simp; omega)) _) | refine below_drewN ?_ _ | refine Below.drew ?_))⟩

theorem Keep.of_set {S : Nat → Prop} {w : World} {p : Addr} (h : ¬ S p.block) (v : Value) : Keep S w (w.setCell p v) := by
  intro b hb
  exact heap_setCell_other w p b v (fun e => h (e ▸ hb))
theorem Keep.of_set2 {N M b o : Nat} {w : World} (h : b < N) (v : Value) : Keep (fun k => N ≤ k ∧ k < M) w (w.setCell ⟨b, o, none⟩ v) := Keep.of_set (fun h' => by have := h'.1; simp at this; omega) v

set_option maxRecDepth 100000 in
theorem toAuto_any (v : Value) (a : GAuto) (w : World) (h : AutoV w w.heap.size v a) (hl : a.finals.length ≤ 1048576) (hl' : a.next.length ≤ 1048576) (hll : ∀ x ∈ a.next, x.length ≤ 1048576) :
    Calls Try.prog 18 #[v] w fun e w' => ∃ v', e = .returned v' ∧ AutoV w' w'.heap.size v' a ∧ Below w.heap.size w w' := by
  obtain ⟨states, start, finals, next⟩ := a
  obtain ⟨vF, vN, rfl, hF, hN⟩ := h
  simp only at hF hN hl hl' hll ⊢
  have hB := fun o o' o'' => (((Below.refl w.heap.size w).alloc (Nat.le_refl _) o).alloc (by simp) o').alloc (by simp; omega) o''
  have HB := Lib.hid hB
  have HF := Lib.hid hF
  have HN := Lib.hid hN
  have Hll := Lib.hid hll
  clear hB hll
  obtain ⟨AF, cF, rfl, _⟩ := hF
  obtain ⟨AN, cN, rfl, _⟩ := hN
  go_enter Try.func18, Try.ntmps18
  go_wp2_with fail
  refine (toInt64S_any _ finals _ ((HF.out.below (HB.out _ _ _)).le (by first | omega | (simp; done) | (simp; omega))) hl).mono ?_
  rintro e w1 ⟨v1, rfl, hown1, hb1⟩
  obtain ⟨A1, c1, rfl, _⟩ := own_nil hown1
  obtain ⟨hc1, hf1⟩ := bcell hb1
  have hz1 : w.heap.size + 3 ≤ w1.heap.size := by have := hb1.size; simp at this; omega
  have Hown := Lib.hid hown1
  have hb1' := fun u => ((HB.out _ _ _).trans (hb1.mono (by simp; omega))).setCell (p := ⟨w.heap.size + 1 + 1, 2, none⟩) (by show w.heap.size ≤ w.heap.size + 1 + 1; omega) u
  have HB1 := Lib.hid hb1'
  clear hown1 hb1 hb1'
  go_wp2_with fail
  refine (toInt64SS_any _ next _ ((HN.out.below (HB1.out _)).le (by first | omega | (simp; done) | (simp; omega))) hl' Hll.out).mono ?_
  rintro e w2 ⟨v2, rfl, hs2, hb2⟩
  have Hs2 := Lib.hid hs2
  obtain ⟨A2, c2, rfl, _⟩ := hs2
  obtain ⟨hc2, hf2⟩ := bcell hb2
  have hz2 : w.heap.size + 3 ≤ w2.heap.size := by have := hb2.size; simp [World.setCell] at this; omega
  have hzz : w1.heap.size ≤ w2.heap.size := by have := hb2.size; simpa [World.setCell] using this
  have hx : w.heap.size + 1 + 1 < w1.heap.size := by omega
  have hy : w.heap.size + 1 < w1.heap.size := by omega
  have hx2 : w.heap.size + 1 + 1 < (w1.setCell ⟨w.heap.size + 1 + 1, 2, none⟩ (.slice A1 finals.length c1)).heap.size := by simp [World.setCell]; omega
  have hy2 : w.heap.size + 1 < (w1.setCell ⟨w.heap.size + 1 + 1, 2, none⟩ (.slice A1 finals.length c1)).heap.size := by simp [World.setCell]; omega
  have e0 : w1.cell? ⟨w.heap.size + 1 + 1, 0, none⟩ = some (.int .i64 states) := by rw [hc1 _ _ (by simp)]; simp [go_sem]
  have e1 : w1.cell? ⟨w.heap.size + 1 + 1, 1, none⟩ = some (.int .i64 start) := by rw [hc1 _ _ (by simp)]; simp [go_sem]
  have e2 : w1.cell? ⟨w.heap.size + 1 + 1, 2, none⟩ = some (.slice none 0 0) := by rw [hc1 _ _ (by simp)]; simp [go_sem]
  have e3 : w1.cell? ⟨w.heap.size + 1 + 1, 3, none⟩ = some (.slice none 0 0) := by rw [hc1 _ _ (by simp)]; simp [go_sem]
  have r0 : w1.cell? ⟨w.heap.size + 1, 0, none⟩ = some (.int .i64 0) := by rw [hc1 _ _ (by simp)]; simp [go_sem]
  have r1 : w1.cell? ⟨w.heap.size + 1, 1, none⟩ = some (.int .i64 0) := by rw [hc1 _ _ (by simp)]; simp [go_sem]
  have r2 : w1.cell? ⟨w.heap.size + 1, 2, none⟩ = some (.slice none 0 0) := by rw [hc1 _ _ (by simp)]; simp [go_sem]
  have r3 : w1.cell? ⟨w.heap.size + 1, 3, none⟩ = some (.slice none 0 0) := by rw [hc1 _ _ (by simp)]; simp [go_sem]
  have d0 : w2.cell? ⟨w.heap.size + 1 + 1, 0, none⟩ = some (.int .i64 states) := by rw [hc2 _ _ hx2]; simp [go_sem, e0]
  have d1 : w2.cell? ⟨w.heap.size + 1 + 1, 1, none⟩ = some (.int .i64 start) := by rw [hc2 _ _ hx2]; simp [go_sem, e1]
  have d2 : w2.cell? ⟨w.heap.size + 1 + 1, 2, none⟩ = some (.slice A1 finals.length c1) := by rw [hc2 _ _ hx2]; simp [go_sem, e2]
  have d3 : w2.cell? ⟨w.heap.size + 1 + 1, 3, none⟩ = some (.slice none 0 0) := by rw [hc2 _ _ hx2]; simp [go_sem, e3]
  have q0 : w2.cell? ⟨w.heap.size + 1, 0, none⟩ = some (.int .i64 0) := by rw [hc2 _ _ hy2]; simp [go_sem, r0]
  have q1 : w2.cell? ⟨w.heap.size + 1, 1, none⟩ = some (.int .i64 0) := by rw [hc2 _ _ hy2]; simp [go_sem, r1]
  have q2 : w2.cell? ⟨w.heap.size + 1, 2, none⟩ = some (.slice none 0 0) := by rw [hc2 _ _ hy2]; simp [go_sem, r2]
  have q3 : w2.cell? ⟨w.heap.size + 1, 3, none⟩ = some (.slice none 0 0) := by rw [hc2 _ _ hy2]; simp [go_sem, r3]
  have fx : ∀ o, w2.frozen? ⟨w.heap.size + 1 + 1, o, none⟩ = false := fun o => by rw [hf2 _ _ hx2]; simp [go_sem]; rw [hf1 _ _ (by simp)]; simp [go_sem]
  have fy : ∀ o, w2.frozen? ⟨w.heap.size + 1, o, none⟩ = false := fun o => by rw [hf2 _ _ hy2]; simp [go_sem]; rw [hf1 _ _ (by simp)]; simp [go_sem]
  have Hb2 := Lib.hid hb2
  clear hb2 hc1 hf1 hc2 hf2 hx2 hy2 e0 e1 e2 e3 r0 r1 r2 r3
  go_wp2
  refine bodyPost_ret (v := .agg #[.int .i64 states, .int .i64 start, .slice A1 finals.length c1, .slice A2 next.length c2]) (by simp [results, Try.results18, go_sem, q0, q1, q2, q3]) rfl ⟨_, rfl, ⟨_, _, rfl, ?_, ?_⟩, ?_⟩
  · have h1 : SlS IntE w1 (fun b => w.heap.size + 3 ≤ b ∧ b < w1.heap.size) (.slice A1 finals.length c1) finals := Hown.out.slS fun g hg => by have := Hown.out.lt g hg; simp at this; omega
    have h2 := ((h1.keep (Keep.of_set2 (b := w.heap.size + 1 + 1) (o := 2) (by omega) (.slice A1 finals.length c1))).keep (Keep.of_below Hb2.out |>.mono fun b h => by simp [World.setCell]; exact h.2)).more (S' := fun b => w.heap.size + 3 ≤ b ∧ b < w2.heap.size) fun b h => ⟨h.1, by omega⟩
    exact ((((((h2.keep (Keep.of_set2 (by omega) _)).keep (Keep.of_set2 (by omega) _)).keep (Keep.of_set2 (by omega) _)).keep (Keep.of_set2 (by omega) _)).keep (Keep.of_set2 (by omega) _))).more fun b h => by simp [World.setCell]; exact h.2
  · have h2 := Hs2.out.more (S' := fun b => w.heap.size + 3 ≤ b ∧ b < w2.heap.size) fun b h => ⟨by have := h.1; simp [World.setCell] at this; omega, h.2⟩
    exact ((((((h2.keep (Keep.of_set2 (by omega) _)).keep (Keep.of_set2 (by omega) _)).keep (Keep.of_set2 (by omega) _)).keep (Keep.of_set2 (by omega) _)).keep (Keep.of_set2 (by omega) _))).more fun b h => by simp [World.setCell]; exact h.2
  · have h3 := (HB1.out (.slice A1 finals.length c1)).trans (Hb2.out.mono (by simp [World.setCell]; omega))
    exact ((((h3.setCell (by show w.heap.size ≤ w.heap.size + 1 + 1; omega) _).setCell (by show w.heap.size ≤ w.heap.size + 1; omega) _).setCell (by show w.heap.size ≤ w.heap.size + 1; omega) _).setCell (by show w.heap.size ≤ w.heap.size + 1; omega) _).setCell (by show w.heap.size ≤ w.heap.size + 1; omega) _
end Go.Proofs.Ythidgjdjijjkoaa
