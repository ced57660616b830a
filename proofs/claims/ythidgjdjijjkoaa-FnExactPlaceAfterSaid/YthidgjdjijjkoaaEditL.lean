import Derived.Test.YthidgjdjijjkoaaEdit
import Derived.Test.YthidgjdjijjkoaaRules2
import Derived.Test.YthidgjdjijjkoaaAuto5
import Derived.Test.YthidgjdjijjkoaaLTurn
namespace Go.Proofs.Ythidgjdjijjkoaa
open Go.RowKit

def szE (e : GEdit) (left : Int) : Int := if szRs e.part left < 0 then -1 else if szRs e.part left - e.map.size < 0 then -1 else szRs e.part left - e.map.size
set_option maxRecDepth 100000 in
theorem szEdit_any (v : Value) (e : GEdit) (left : Int) (w : World) (h : EditV w w.heap.size v e) (hsm : SmallL e.part) (hm : e.map.size ≤ maxLen) (hl : 0 ≤ left ∧ left ≤ 1048576) :
    Calls Try.prog 43 #[v, .int .i64 left] w fun r w' => r = .returned (.int .i64 (szE e left)) ∧ Below w.heap.size w w' := by
  obtain ⟨vR, rfl, hR⟩ := h
  unfold maxLen at hm
  have HR := Lib.hid (fun o => (hR.below ((Below.refl w.heap.size w).alloc (Nat.le_refl _) o)).le (B' := (w.alloc o).heap.size) (by simp))
  obtain ⟨AR, cR, rfl, _⟩ := hR
  go_enter Try.func43, Try.ntmps43
  go_wp2_with fail
  refine (szGrammar_any _ e.part _ _ (HR.out _) hsm hl).mono ?_
  rintro r w1 ⟨rfl, hb1⟩
  have z1 : w.heap.size < w1.heap.size := Nat.lt_of_lt_of_le (by simp) hb1.size
  have x5 := (hb1.cell (p := ⟨w.heap.size, 5, none⟩) (by simp)).trans (show _ = some (Value.string e.map) by simp [go_sem])
  have B1 := Lib.hid (((Below.refl w.heap.size w).alloc (Nat.le_refl _) _).trans (hb1.mono (by simp)))
  clear hb1
  by_cases c1 : szRs e.part left < 0
  · rw [if_pos c1]
    have C1 := Lib.hid c1
    clear c1
    go_wp2_with fail
    go_ret
    exact ⟨ret_int (by rw [szE, if_pos C1.out]), B1.out⟩
  · rw [if_neg c1]
    obtain ⟨hle, _⟩ := szRs_le e.part left (by omega)
    have C1 := Lib.hid c1
    obtain ⟨X, hX⟩ : ∃ X, szRs e.part left = X := ⟨_, rfl⟩
    rw [hX] at c1 hle
    rw [hX]
    have HX := Lib.hid hX
    have ws : IntKind.i64.wrap (X - (e.map.size : Int)) = X - (e.map.size : Int) := IntWalk.i64_in _ (by omega)
    clear hX
    by_cases c2 : X - (e.map.size : Int) < 0
    · have C2 := Lib.hid c2
      go_wp2_with fail
      go_ret
      exact ⟨ret_int (by rw [szE, if_neg (by have := C1.out; omega), HX.out, if_pos C2.out]), B1.out⟩
    · have C2 := Lib.hid c2
      go_wp2_with fail
      go_ret
      exact ⟨ret_int (by rw [szE, if_neg (by have := C1.out; omega), HX.out, if_neg (by have := C2.out; omega)]), B1.out⟩

set_option maxRecDepth 100000 in
set_option maxHeartbeats 1000000 in
theorem toEdit_any (v : Value) (e : GEdit) (w : World) (h : EditV w w.heap.size v e) (hl : e.part.length ≤ 1048576) :
    Calls Try.prog 45 #[v] w fun r w' => ∃ v', r = .returned v' ∧ EditV w' w'.heap.size v' e ∧ Below w.heap.size w w' := by
  obtain ⟨k, i, j, kk, part, map⟩ := e
  obtain ⟨vR, rfl, hR⟩ := h
  simp only at hR hl ⊢
  have hB := fun o o' o'' => (((Below.refl w.heap.size w).alloc (Nat.le_refl _) o).alloc (by simp) o').alloc (by simp; omega) o''
  have HB := Lib.hid hB
  have HR := Lib.hid hR
  clear hB
  obtain ⟨AR, cR, rfl, _⟩ := hR
  go_enter Try.func45, Try.ntmps45
  go_wp2_with fail
  refine (toGrammar_any _ part _ ((HR.out.below (HB.out _ _ _)).le (by first | omega | (simp; done) | (simp; omega))) hl).mono ?_
  rintro r w1 ⟨v1, rfl, hown1, hb1⟩
  obtain ⟨A1, c1, rfl, _⟩ := own_nil hown1
  obtain ⟨hc1, hf1⟩ := bcell hb1
  have hz1 : w.heap.size + 3 ≤ w1.heap.size := by have := hb1.size; simp at this; omega
  have Hown := Lib.hid hown1
  have HB1 := Lib.hid ((HB.out _ _ _).trans (hb1.mono (by simp; omega)))
  have hx : w.heap.size + 1 + 1 < w1.heap.size := by omega
  have hy : w.heap.size + 1 < w1.heap.size := by omega
  have hw0 : w.heap.size < w1.heap.size := by omega
  have p5 : w1.cell? ⟨w.heap.size, 5, none⟩ = some (.string map) := by rw [hc1 _ _ (by simp; omega)]; simp [go_sem]
  have e0 : w1.cell? ⟨w.heap.size + 1 + 1, 0, none⟩ = some (.int .i64 k) := by rw [hc1 _ _ (by simp)]; simp [go_sem]
  have e1 : w1.cell? ⟨w.heap.size + 1 + 1, 1, none⟩ = some (.int .i64 i) := by rw [hc1 _ _ (by simp)]; simp [go_sem]
  have e2 : w1.cell? ⟨w.heap.size + 1 + 1, 2, none⟩ = some (.int .i64 j) := by rw [hc1 _ _ (by simp)]; simp [go_sem]
  have e3 : w1.cell? ⟨w.heap.size + 1 + 1, 3, none⟩ = some (.int .i64 kk) := by rw [hc1 _ _ (by simp)]; simp [go_sem]
  have e4 : w1.cell? ⟨w.heap.size + 1 + 1, 4, none⟩ = some (.slice none 0 0) := by rw [hc1 _ _ (by simp)]; simp [go_sem]
  have e5 : w1.cell? ⟨w.heap.size + 1 + 1, 5, none⟩ = some (.string ⟨#[]⟩) := by rw [hc1 _ _ (by simp)]; simp [go_sem]
  have r0 : w1.cell? ⟨w.heap.size + 1, 0, none⟩ = some (.int .i64 0) := by rw [hc1 _ _ (by simp)]; simp [go_sem]
  have r1 : w1.cell? ⟨w.heap.size + 1, 1, none⟩ = some (.int .i64 0) := by rw [hc1 _ _ (by simp)]; simp [go_sem]
  have r2 : w1.cell? ⟨w.heap.size + 1, 2, none⟩ = some (.int .i64 0) := by rw [hc1 _ _ (by simp)]; simp [go_sem]
  have r3 : w1.cell? ⟨w.heap.size + 1, 3, none⟩ = some (.int .i64 0) := by rw [hc1 _ _ (by simp)]; simp [go_sem]
  have r4 : w1.cell? ⟨w.heap.size + 1, 4, none⟩ = some (.slice none 0 0) := by rw [hc1 _ _ (by simp)]; simp [go_sem]
  have r5 : w1.cell? ⟨w.heap.size + 1, 5, none⟩ = some (.string ⟨#[]⟩) := by rw [hc1 _ _ (by simp)]; simp [go_sem]
  have fx : ∀ o, w1.frozen? ⟨w.heap.size + 1 + 1, o, none⟩ = false := fun o => by rw [hf1 _ _ (by simp)]; simp [go_sem]
  have fy : ∀ o, w1.frozen? ⟨w.heap.size + 1, o, none⟩ = false := fun o => by rw [hf1 _ _ (by simp)]; simp [go_sem]
  clear hb1 hc1 hf1 hown1
  go_wp2
  refine bodyPost_ret (v := .agg #[.int .i64 k, .int .i64 i, .int .i64 j, .int .i64 kk, .slice A1 part.length c1, .string map]) (by simp [results, Try.results45, go_sem, r0, r1, r2, r3, r4, r5]) rfl ⟨_, rfl, ⟨_, rfl, ?_⟩, ?_⟩
  · have h1 : SlS RuleE w1 (fun b => w.heap.size + 3 ≤ b ∧ b < w1.heap.size) (.slice A1 part.length c1) part := Hown.out.slS fun g hg => by have := Hown.out.lt g hg; simp at this; omega
    have h2 : ∀ (W : World), SlS RuleE W (fun b => w.heap.size + 3 ≤ b ∧ b < w1.heap.size) (.slice A1 part.length c1) part → ∀ p u, p.block < w.heap.size + 3 → SlS RuleE (W.setCell p u) (fun b => w.heap.size + 3 ≤ b ∧ b < w1.heap.size) (.slice A1 part.length c1) part :=
      fun W hW p u hp => hW.keep (Keep.of_set (fun h => by have := h.1; omega) u)
    refine SlS.more (S := fun b => w.heap.size + 3 ≤ b ∧ b < w1.heap.size) ?_ (fun b h => by simp [World.setCell]; exact h.2)
    show SlS RuleE _ _ _ part
    exact (h2 _ (h2 _ (h2 _ (h2 _ (h2 _ (h2 _ (h2 _ (h2 _ h1 _ _ (by show w.heap.size + 1 + 1 < w.heap.size + 3; omega)) _ _ (by show w.heap.size + 1 + 1 < w.heap.size + 3; omega)) _ _ (by show w.heap.size + 1 < w.heap.size + 3; omega)) _ _ (by show w.heap.size + 1 < w.heap.size + 3; omega)) _ _ (by show w.heap.size + 1 < w.heap.size + 3; omega)) _ _ (by show w.heap.size + 1 < w.heap.size + 3; omega)) _ _ (by show w.heap.size + 1 < w.heap.size + 3; omega)) _ _ (by show w.heap.size + 1 < w.heap.size + 3; omega))
  · exact (Below.setCell (Below.setCell (Below.setCell (Below.setCell (Below.setCell (Below.setCell (Below.setCell (Below.setCell HB1.out (by show w.heap.size ≤ w.heap.size + 1 + 1; omega) _) (by show w.heap.size ≤ w.heap.size + 1 + 1; omega) _) (by show w.heap.size ≤ w.heap.size + 1; omega) _) (by show w.heap.size ≤ w.heap.size + 1; omega) _) (by show w.heap.size ≤ w.heap.size + 1; omega) _) (by show w.heap.size ≤ w.heap.size + 1; omega) _) (by show w.heap.size ≤ w.heap.size + 1; omega) _) (by show w.heap.size ≤ w.heap.size + 1; omega) _)

theorem eqEdit_any (v v' : Value) (e : GEdit) (w : World) (h : EditV w w.heap.size v e) (h' : EditV w w.heap.size v' e) :
    Calls Try.prog 47 #[v, v'] w fun r w' => r = .returned (.bool true) ∧ Below w.heap.size w w' := by
  obtain ⟨vR, rfl, hR⟩ := h
  obtain ⟨vR', rfl, hR'⟩ := h'
  have hB := fun o o' => ((Below.refl w.heap.size w).alloc (Nat.le_refl _) o).alloc (by simp) o'
  have HB := Lib.hid hB
  have HR := Lib.hid hR
  have HR' := Lib.hid hR'
  clear hB
  obtain ⟨AR, cR, rfl, _⟩ := hR
  obtain ⟨AR', cR', rfl, _⟩ := hR'
  have q1 : (e.kind != e.kind) = false := by simp
  have q2 : (e.i != e.i) = false := by simp
  have q3 : (e.j != e.j) = false := by simp
  have q4 : (e.k != e.k) = false := by simp
  go_enter Try.func47, Try.ntmps47
  go_wp2_with fail
  refine (eqGrammar_any _ _ e.part _ ((HR.out.below (HB.out _ _)).le (by first | omega | (simp; done) | (simp; omega))) ((HR'.out.below (HB.out _ _)).le (by first | omega | (simp; done) | (simp; omega)))).mono ?_
  rintro r w1 ⟨rfl, hb1⟩
  have hz1 : w.heap.size + 2 ≤ w1.heap.size := by have := hb1.size; simp at this; omega
  have x5 := (hb1.cell (p := ⟨w.heap.size, 5, none⟩) (by simp; omega)).trans (show _ = some (Value.string e.map) by simp [go_sem])
  have y5 := (hb1.cell (p := ⟨w.heap.size + 1, 5, none⟩) (by simp)).trans (show _ = some (Value.string e.map) by simp [go_sem])
  have B1 := Lib.hid ((HB.out _ _).trans (hb1.mono (by simp; omega)))
  clear hb1
  go_wp2_with fail
  go_ret
  exact ⟨rfl, B1.out⟩
end Go.Proofs.Ythidgjdjijjkoaa
