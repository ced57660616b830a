import Derived.Test.YthidgjdjijjkoaaDoorPow2
namespace Go.Proofs.YthidgjdjijjkoaaDoor
open Go.RowKit

def inB (n a b : Int) : Bool := decide (a ≤ n) && decide (n ≤ b)
theorem withinY (n a b : Int) (r : Bool) (w : World) (h : inB n a b = r) : Calls Tryd.prog 29 #[.int .i64 n, .int .i64 a, .int .i64 b] w fun e w' => e = .returned (.bool r) ∧ w = w' :=
  (within_any n a b w).mono fun _ _ ⟨he, hw⟩ => ⟨by rw [he, ← h]; rfl, hw⟩
theorem l00InY (n a b : Int) (r : Bool) (w : World) (h : inB n a b = r) : Calls Tryd.prog 24 #[.int .i64 n, .int .i64 a, .int .i64 b] w fun e w' => e = .returned (.bool r) ∧ w = w' :=
  (l00In_any n a b w).mono fun _ _ ⟨he, hw⟩ => ⟨by rw [he, ← h]; rfl, hw⟩
/-- What PowerGrammar answers. -/
def powOut (xs : List GRule) (t : Int) : List GRule := if gramOk xs && inB t 0 1000000000000000 then limOut (powG xs t.toNat) else []
def powCode (xs : List GRule) (t : Int) : Int := if gramOk xs then if inB t 0 1000000000000000 then limCode (powG xs t.toNat) else 2 else 1
theorem powG_len (xs : List GRule) (n : Nat) (h : n < 1152921504606846976) : (powG xs n).length ≤ xs.length + 120 := by
  unfold powG
  split
  · simp
  · have h1 := powFold_len ((xs.length : Int) - 1) (binL n).tail xs
    have h2 := binL_len n 60 h (by omega)
    have h3 : (binL n).tail.length ≤ 60 := by simp; omega
    omega

set_option maxRecDepth 100000 in
set_option maxHeartbeats 1000000 in
theorem implPower_any (v : Value) (xs : List GRule) (t : Int) (w : World) (h : Sl RuleE w w.heap.size v xs) (hn : xs.length ≤ 1048576) (htab : Lib.TabIs Tryd.prog w "math/bits.deBruijn64tab" .u8 deB64) :
    Calls Tryd.prog 11 #[.agg #[v], .int .i64 t] w (GRes (powOut xs t) (powCode xs t) w) := by
  have h1 := fun o o' => (h.below (((Below.refl w.heap.size w).alloc (Nat.le_refl _) o).alloc (by simp) o')).le (B' := ((w.alloc o).alloc o').heap.size) (by simp; omega)
  have H1 := Lib.hid h1
  have HT := Lib.hid htab
  clear h1 htab
  obtain ⟨A, c, rfl, hc, hm, hrow⟩ := h
  clear hm hrow
  go_enter Tryd.func11, Tryd.ntmps11
  go_wp2_with fail
  refine (ValidGrammar_any _ _ _ (H1.out _ _) (by omega)).mono ?_
  rintro e w1 ⟨rfl, hb1⟩
  obtain ⟨hc1, hf1⟩ := bcell hb1
  have hz1 : w.heap.size + 1 < w1.heap.size := by have := hb1.size; simp at this; omega
  have a1 : w1.cell? ⟨w.heap.size, 0, none⟩ = some (.slice A xs.length c) := by rw [hc1 _ _ (by first | omega | (simp; done) | (simp; omega))]; simp [go_sem]
  have c1 : w1.cell? ⟨w.heap.size + 1, 0, none⟩ = some (.slice none 0 0) := by rw [hc1 _ _ (by first | omega | (simp; done) | (simp; omega))]; simp [go_sem]
  have f1 : w1.frozen? ⟨w.heap.size + 1, 0, none⟩ = false := by rw [hf1 _ _ (by first | omega | (simp; done) | (simp; omega))]; simp [go_sem]
  have S1 := Lib.hid ((H1.out (Obj.cells #[Value.slice A xs.length c] 34) (Obj.cells #[Value.slice none 0 0] 34)).up hb1)
  have B1 := Lib.hid (((Below.refl w.heap.size w).alloc (Nat.le_refl _) (Obj.cells #[Value.slice A xs.length c] 34)).alloc (by simp) (Obj.cells #[Value.slice none 0 0] 34) |>.trans (hb1.mono (by simp; omega)))
  clear hc1 hf1 hb1
  by_cases hok : gramOk xs = true
  · have hok2 : (!gramOk xs) = false := by simp [hok]
    have Hok := Lib.hid hok
    clear hok
    go_wp2_with fail
    by_cases hin : inB t 0 1000000000000000 = true
    · have Hin := Lib.hid hin
      have ht : 0 ≤ t ∧ t ≤ 1000000000000000 := by simpa [inB] using hin
      obtain ⟨n, rfl⟩ := Int.eq_ofNat_of_zero_le ht.1
      have hn60 : n < 1152921504606846976 := by omega
      clear hin ht
      refine (withinY _ _ _ _ _ Hin.out).mono ?_
      rintro e w' ⟨rfl, rfl⟩
      go_wp2_with fail
      refine (power_any _ xs n _ S1.out hn hn60 (tab_below HT.out B1.out)).mono ?_
      rintro e w3 ⟨hb3, v3, own3, rfl⟩
      have z3 : w1.heap.size ≤ w3.heap.size := hb3.size
      have hz3 : w.heap.size + 1 < w3.heap.size := by omega
      have c3 := cell_up c1 hb3 (by omega)
      have f3 : w3.frozen? ⟨w.heap.size + 1, 0, none⟩ = false := by rw [hb3.frozen hz1, f1]
      have B3 := Lib.hid (B1.out.trans (hb3.mono (by omega)))
      have O3 := Lib.hid own3
      have hpl := powG_len xs n hn60
      clear a1 c1 f1 hb3 own3
      go_wp2_with fail
      refine (orLimit_any _ _ _ _ O3.out (by omega)).mono ?_
      rintro e w4 ⟨hb4, v4, own4, rfl⟩
      obtain ⟨A4, k4, rfl, _⟩ := own_nil own4
      have c4 := cell_up c3 hb4 (by omega)
      have f4 : w4.frozen? ⟨w.heap.size + 1, 0, none⟩ = false := by rw [hb4.frozen hz3, f3]
      have B4 := Lib.hid (B3.out.trans (hb4.mono (by omega)))
      have O4 := Lib.hid own4
      clear c3 f3 hb4 own4
      have e1 : powOut xs n = limOut (powG xs n) := by rw [powOut, Hok.out, Hin.out]; rfl
      have e2 : powCode xs n = limCode (powG xs n) := by rw [powCode, Hok.out, Hin.out]; rfl
      have E1 := Lib.hid e1
      have E2 := Lib.hid e2
      clear e1 e2
      go_wp2
      refine bodyPost_ret (v := .tuple #[.agg #[.slice A4 (limOut (powG xs n)).length k4], .int .i64 (limCode (powG xs n))]) (by simp [results, Tryd.results11, go_sem, c4]) rfl ⟨?_, _, ?_, by rw [E2.out]⟩
      · exact B4.out.setCell (by show w.heap.size ≤ w.heap.size + 1; omega) _
      · rw [E1.out]
        exact ownsRow_more (ownsRow_setCell_below O4.out (a := ⟨w.heap.size + 1, 0, none⟩) (by show w.heap.size + 1 < w1.heap.size; omega) _) (by omega)
    · have hin' : inB t 0 1000000000000000 = false := by simpa using hin
      have Hin := Lib.hid hin'
      clear hin hin'
      refine (withinY _ _ _ _ _ Hin.out).mono ?_
      rintro e w' ⟨rfl, rfl⟩
      go_wp2
      refine bodyPost_ret (v := .tuple #[.agg #[.slice none 0 0], .int .i64 2]) (by simp [results, Tryd.results11, go_sem, c1]) rfl ⟨?_, _, ?_, by rw [powCode, if_pos Hok.out, if_neg (by rw [Hin.out]; decide)]⟩
      · exact B1.out.setCell (by show w.heap.size ≤ w.heap.size + 1; omega) _
      · rw [powOut, if_neg (by simp [Hin.out])]; exact World.ownsRow_nil _ _ _ _
  · have hok2 : (!gramOk xs) = true := by simp [hok]
    have Hok := Lib.hid hok
    clear hok
    go_wp2
    refine bodyPost_ret (v := .tuple #[.agg #[.slice none 0 0], .int .i64 1]) (by simp [results, Tryd.results11, go_sem, c1]) rfl ⟨?_, _, ?_, by rw [powCode, if_neg (by simp [Hok.out])]⟩
    · exact B1.out.setCell (by show w.heap.size ≤ w.heap.size + 1; omega) _
    · rw [powOut, if_neg (by simp [Hok.out])]; exact World.ownsRow_nil _ _ _ _
end Go.Proofs.YthidgjdjijjkoaaDoor
